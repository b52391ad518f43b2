import Derived.Test.YtdcjiclonjillaaZZ63OA
import Derived.Test.YtdcjiclonjillaaZZ63Q1
import Derived.Test.YtdcjiclonjillaaZZ63H2
import Derived.Test.YtdcjiclonjillaaZZ63V8
import Derived.Test.YtdcjiclonjillaaZZ63L4
import Derived.Deep.RegionHeld3
namespace Go.Proofs.Ytdcjiclonjillaa
set_option linter.unusedVariables false
set_option linter.unusedSimpArgs false
open Go.RowKit

/-! Part of the proof of one law. -/

theorem elem_gate : ElemOf Try.prog 25 24 (.agg #[.int .i64 0, .int .i64 0]) 2 16 :=
  ⟨by kernel_rfl, info_parts (by kernel_rfl), rfl, by omega⟩

theorem gcells_append (xs ys : List Gt) : gcells xs ++ gcells ys = gcells (xs ++ ys) := by
  induction xs with
  | nil => rfl
  | cons x xs ih => show .int .i64 x.a :: .int .i64 x.b :: (gcells xs ++ gcells ys) = _; rw [ih]; rfl

structure OutC (w : World) (base B : Nat) (inp : Int) (xn : List Int) (xg : List Gt) (xo : List Int) (vn vg vo : Value) : Prop where
  blk : w.heap[B]? = some (.cells #[.int .i64 inp, vn, vg, vo] 28 (0, 0))
  n : w.ownsRow base 3 1 vn xn.length (ints xn)
  g : w.ownsRow base 24 2 vg xg.length (gcells xg)
  o : w.ownsRow base 3 1 vo xo.length (ints xo)
  ne : ∀ k, vn.ownBlock = some k → vo.ownBlock ≠ some k

theorem OutC.below {w w' : World} {base B : Nat} {inp : Int} {xn : List Int} {xg : List Gt} {xo : List Int} {vn vg vo : Value} (h : OutC w base B inp xn xg xo vn vg vo) (hb : Below w.heap.size w w') : OutC w' base B inp xn xg xo vn vg vo :=
  ⟨blk_below hb (blk_lt h.blk) h.blk, own_below h.n hb, own_below h.g hb, own_below h.o hb, h.ne⟩

theorem OutC.pushN {w w2 : World} {base B : Nat} {inp : Int} {xn xn' : List Int} {xg : List Gt} {xo : List Int} {vn vn' vg vo : Value} (h : OutC w base B inp xn xg xo vn vg vo)
    (hg : w.grownBy w2 vn.ownBlock) (ho : w2.ownsRow base 3 1 vn' xn'.length (ints xn')) (hb : vn'.ownBlock = vn.ownBlock ∨ vn'.ownBlock = some w.heap.size) : w2.heap[B]? = some (.cells #[.int .i64 inp, vn, vg, vo] 28 (0, 0)) ∧ OutC (w2.setCell ⟨B, 1, none⟩ vn') base B inp xn' xg xo vn' vg vo := by
  have hB : w2.heap[B]? = some (.cells #[.int .i64 inp, vn, vg, vo] 28 (0, 0)) := by
    rw [hg.block B (blk_lt h.blk) (fun e => own_tyb h.n h.blk (by decide) e.symm)]; exact h.blk
  have hc := Chg.of_grown hg
  have lt : ∀ k, vo.ownBlock = some k → k < w.heap.size := fun k hk => (own_blk h.o hk).2
  refine ⟨hB, by simpa using blk_set (o := 1) (v := vn') hB, own_set_ne ho (own_tyb ho hB (by decide)) _, own_set_ne (hc.own h.g (fun k hk hs => own_ty h.n h.g (by decide) hs hk)) (own_tyb h.g h.blk (by decide)) _, own_set_ne (hc.own h.o (fun k hk hs => h.ne k hs hk)) (own_tyb h.o h.blk (by decide)) _, fun k hk => ?_⟩
  rcases hb with e | e
  · rw [e] at hk; exact h.ne k hk
  · rw [e] at hk; cases hk; intro hk2; have := lt _ hk2; omega

theorem OutC.pushO {w w2 : World} {base B : Nat} {inp : Int} {xn : List Int} {xg : List Gt} {xo xo' : List Int} {vn vg vo vo' : Value} (h : OutC w base B inp xn xg xo vn vg vo)
    (hg : w.grownBy w2 vo.ownBlock) (ho : w2.ownsRow base 3 1 vo' xo'.length (ints xo')) (hb : vo'.ownBlock = vo.ownBlock ∨ vo'.ownBlock = some w.heap.size) : w2.heap[B]? = some (.cells #[.int .i64 inp, vn, vg, vo] 28 (0, 0)) ∧ OutC (w2.setCell ⟨B, 3, none⟩ vo') base B inp xn xg xo' vn vg vo' := by
  have hB : w2.heap[B]? = some (.cells #[.int .i64 inp, vn, vg, vo] 28 (0, 0)) := by
    rw [hg.block B (blk_lt h.blk) (fun e => own_tyb h.o h.blk (by decide) e.symm)]; exact h.blk
  have hc := Chg.of_grown hg
  have lt : ∀ k, vn.ownBlock = some k → k < w.heap.size := fun k hk => (own_blk h.n hk).2
  refine ⟨hB, by simpa using blk_set (o := 3) (v := vo') hB, own_set_ne (hc.own h.n (fun k hk hs => h.ne k hk hs)) (own_tyb h.n h.blk (by decide)) _, own_set_ne (hc.own h.g (fun k hk hs => own_ty h.o h.g (by decide) hs hk)) (own_tyb h.g h.blk (by decide)) _, own_set_ne ho (own_tyb ho hB (by decide)) _, fun k hk hk2 => ?_⟩
  rcases hb with e | e
  · rw [e] at hk2; exact h.ne k hk hk2
  · rw [e] at hk2; cases hk2; have := lt _ hk; omega

theorem OutC.pushG {w w2 : World} {base B : Nat} {inp : Int} {xn : List Int} {xg xg' : List Gt} {xo : List Int} {vn vg vg' vo : Value} (h : OutC w base B inp xn xg xo vn vg vo)
    (hg : w.grownBy w2 vg.ownBlock) (ho : w2.ownsRow base 24 2 vg' xg'.length (gcells xg')) : w2.heap[B]? = some (.cells #[.int .i64 inp, vn, vg, vo] 28 (0, 0)) ∧ OutC (w2.setCell ⟨B, 2, none⟩ vg') base B inp xn xg' xo vn vg' vo := by
  have hB : w2.heap[B]? = some (.cells #[.int .i64 inp, vn, vg, vo] 28 (0, 0)) := by
    rw [hg.block B (blk_lt h.blk) (fun e => own_tyb h.g h.blk (by decide) e.symm)]; exact h.blk
  have hc := Chg.of_grown hg
  exact ⟨hB, by simpa using blk_set (o := 2) (v := vg') hB, own_set_ne (hc.own h.n (fun k hk hs => own_ty h.n h.g (by decide) hk hs)) (own_tyb h.n h.blk (by decide)) _, own_set_ne ho (own_tyb ho hB (by decide)) _, own_set_ne (hc.own h.o (fun k hk hs => own_ty h.o h.g (by decide) hk hs)) (own_tyb h.o h.blk (by decide)) _, h.ne⟩

def forceL (v : Int) (val : Bool) (l : Int) : Int := if l / 2 = v then (if val then 1 - l % 2 else l % 2) else l

theorem force1_any (b1 b2 : Nat) (l v : Int) (val : Bool) (w : World) (h1 : w.cell? ⟨b1, 0, none⟩ = some (.int .i64 v)) (h2 : w.cell? ⟨b2, 0, none⟩ = some (.bool val)) (h0 : 0 ≤ l) (h3 : l ≤ 1000000) :
    Calls Try.prog 93 #[.int .i64 l, .pointer (some ⟨b1, 0, none⟩), .pointer (some ⟨b2, 0, none⟩)] w fun e w' => e = .returned (.int .i64 (forceL v val l)) ∧ w = w' := by
  have hand := i64_and1 l
  have hx : bits .xor .i64 (l % 2) 1 = 1 - l % 2 := by
    rcases (show l % 2 = 0 ∨ l % 2 = 1 by omega) with e | e <;> rw [e] <;> decide
  obtain ⟨R, hR⟩ : ∃ R, R = forceL v val l := ⟨_, rfl⟩
  have HR := Lib.hid hR
  rw [← hR]
  clear hR
  unfold forceL at HR
  by_cases hv : l / 2 = v
  · have e : Hid (R = if val then 1 - l % 2 else l % 2) := by have := HR.out; rw [if_pos hv] at this; exact this
    clear HR
    cases val
    · go_enter Try.func93, Try.ntmps93
      go_wp2
      all_goals first
        | (exfalso; simp at *; omega)
        | (go_ret; exact ⟨ret_int e.out.symm, rfl⟩)
    · go_enter Try.func93, Try.ntmps93
      go_wp2
      all_goals first
        | (exfalso; simp at *; omega)
        | (go_ret; exact ⟨ret_int e.out.symm, rfl⟩)
  · have e : Hid (R = l) := by have := HR.out; rw [if_neg hv] at this; exact this
    clear HR
    cases val
    all_goals
      go_enter Try.func93, Try.ntmps93
      go_wp2
      all_goals first
        | (exfalso; simp at *; omega)
        | (go_ret; exact ⟨ret_int e.out.symm, rfl⟩)

def mapG (f : Int → Int) (gs : List Gt) : List Gt := gs.map fun g => ⟨f g.a, f g.b⟩

def Cir.mapC (f : Int → Int) (c : Cir) : Cir := ⟨c.inp, c.next.map f, mapG f c.gates, c.outs.map f⟩

theorem mapG_snoc {f : Int → Int} {gs : List Gt} {k : Nat} {g : Gt} (h : gs[k]? = some g) : mapG f (gs.take (k + 1)) = mapG f (gs.take k) ++ [⟨f g.a, f g.b⟩] := by
  rw [List.take_add_one, h]; simp [mapG]

theorem map_snoc {f : Int → Int} {xs : List Int} {k : Nat} {x : Int} (h : xs[k]? = some x) : (xs.take (k + 1)).map f = (xs.take k).map f ++ [f x] := by
  rw [List.take_add_one, h]; simp

theorem own_sets4 {w : World} {base r : Nat} {e : TypeId} {size : Nat} {v : Value} {n : Nat} {xs : List Value} (h : w.ownsRow (base + 1) e size v n xs) (hne : v.ownBlock ≠ some r) {a b c d : Value} : ((((w.setCell ⟨r, 0, none⟩ a).setCell ⟨r, 1, none⟩ b).setCell ⟨r, 2, none⟩ c).setCell ⟨r, 3, none⟩ d).ownsRow base e size v n xs :=
  own_set_ne (own_set_ne (own_set_ne (own_set_ne (own_base h (Nat.le_succ _)) hne _) hne _) hne _) hne _

set_option maxRecDepth 100000 in
set_option maxHeartbeats 3200000 in
theorem replaced_any (b b1 b2 : Nat) (c : Cir) (f : Int → Int) (sn sg so : Option Addr) (cn cg co : Nat) (w : World) (h : CirAt w b c.inp (.slice sn c.next.length cn) (.slice sg c.gates.length cg) (.slice so c.outs.length co))
    (hn : Sl w sn (ints c.next)) (hg : Sl w sg (gcells c.gates)) (ho : Sl w so (ints c.outs)) (hv : c.valid)
    (hu : ∀ W (l : Int), Below w.heap.size w W → 0 ≤ l → l / 2 < c.vars → Calls Try.prog (93) #[.int .i64 l, .pointer (some ⟨b1, 0, none⟩), .pointer (some ⟨b2, 0, none⟩)] W fun e w' => e = .returned (.int .i64 (f l)) ∧ W = w') :
    Calls Try.prog 64 #[.pointer (some ⟨b, 0, none⟩), .func (.func (93)) #[] #[.pointer (some ⟨b1, 0, none⟩), .pointer (some ⟨b2, 0, none⟩)]] w fun e w' => ∃ vn vg vo, e = .returned (.agg #[.int .i64 c.inp, vn, vg, vo]) ∧ CirOwn w' w.heap.size (c.mapC f) vn vg vo ∧ Below w.heap.size w w' := by
  have HB : Hid (b < w.heap.size) := World.block_lt_of_cell? w _ h.h0
  obtain ⟨q1, q2, q3, q4, q5⟩ := id hv.lim
  have H := Lib.hid (And.intro h (And.intro hn (And.intro hg (And.intro ho (And.intro hv hu)))))
  have CC : Hid (∀ W, Below w.heap.size w W → CirAt W b c.inp (.slice sn c.next.length cn) (.slice sg c.gates.length cg) (.slice so c.outs.length co)) := fun W hb => ⟨(hb.cell (p := ⟨b, 0, none⟩) HB.out).trans H.out.1.h0, (hb.cell (p := ⟨b, 1, none⟩) HB.out).trans H.out.1.h1, (hb.cell (p := ⟨b, 2, none⟩) HB.out).trans H.out.1.h2, (hb.cell (p := ⟨b, 3, none⟩) HB.out).trans H.out.1.h3⟩
  obtain ⟨z0, z1, z2, z3⟩ := h
  clear hn hg ho hv hu
  have hb0 : Below w.heap.size w ((w.alloc (.cells #[.int .i64 0, .slice none 0 0, .slice none 0 0, .slice none 0 0] 28)).alloc (.cells #[.int .i64 c.inp, .slice none 0 0, .slice none 0 0, .slice none 0 0] 28)) := by go_grown
  have hk0 : OutC ((w.alloc (.cells #[.int .i64 0, .slice none 0 0, .slice none 0 0, .slice none 0 0] 28)).alloc (.cells #[.int .i64 c.inp, .slice none 0 0, .slice none 0 0, .slice none 0 0] 28)) (w.heap.size + 1) (w.heap.size + 1) c.inp [] [] [] (.slice none 0 0) (.slice none 0 0) (.slice none 0 0) :=
    ⟨blk_at (by simp), World.ownsRow_nil _ _ _ _, World.ownsRow_nil _ _ _ _, World.ownsRow_nil _ _ _ _, fun k hk => by cases hk⟩
  have hr0 := blk_old (o := .cells #[.int .i64 c.inp, .slice none 0 0, .slice none 0 0, .slice none 0 0] 28) (blk_new w (.cells #[.int .i64 0, .slice none 0 0, .slice none 0 0, .slice none 0 0] 28))
  have H0 := Lib.hid (And.intro hb0 (And.intro hk0 (And.intro hr0 (show w.heap.size + 2 ≤ ((w.alloc (.cells #[.int .i64 0, .slice none 0 0, .slice none 0 0, .slice none 0 0] 28)).alloc (.cells #[.int .i64 c.inp, .slice none 0 0, .slice none 0 0, .slice none 0 0] 28)).heap.size by simp))))
  clear hb0 hk0 hr0
  have hbB := HB.out
  go_enter Try.func64, Try.ntmps64
  go_wp2_with fail
  revert H0
  generalize ((w.alloc (.cells #[.int .i64 0, .slice none 0 0, .slice none 0 0, .slice none 0 0] 28)).alloc (.cells #[.int .i64 c.inp, .slice none 0 0, .slice none 0 0, .slice none 0 0] 28)) = W0
  intro H0
  go_loopw [22] (fun i wr => ∃ (k : Nat) (s : Option Addr) (cc : Nat), k ≤ c.next.length ∧ i = .int .i64 k ∧ OutC wr (w.heap.size + 1) (w.heap.size + 1) c.inp ((c.next.take k).map f) [] [] (.slice s k cc) (.slice none 0 0) (.slice none 0 0) ∧ Below (w.heap.size + 1) W0 wr) (fun i _ => c.next.length - (intOf i).toNat)
  case atStart => exact ⟨0, _, _, Nat.zero_le _, rfl, H0.out.2.1, Below.refl _ _⟩
  case round =>
    obtain ⟨k, s, cc, hk, rfl, hO, hbl⟩ := hrel
    have hbw : Below w.heap.size w wr := H0.out.1.trans (hbl.mono (Nat.le_succ _))
    have hsz : w.heap.size + 2 ≤ wr.heap.size := Nat.le_trans H0.out.2.2.2 hbl.size
    have hlk : ((c.next.take k).map f).length = k := by simp; omega
    have hlk1 : k < c.next.length → ((c.next.take (k + 1)).map f).length = k + 1 := fun h => by simp; omega
    by_cases hlt : k < c.next.length
    · obtain ⟨x, hx⟩ := get_of_lt hlt
      obtain ⟨xb, xf, rfl, hxb, zx⟩ := H.out.2.1.int hbw hx
      obtain ⟨x0, x1⟩ : 0 ≤ x ∧ x < 2 * c.vars := H.out.2.2.2.2.1.next x (List.mem_of_getElem? hx)
      have hcB := (blk_all hO.blk).1
      have HR := Lib.hid (And.intro hO (And.intro hbl (And.intro hbw (And.intro hx (And.intro hlk (And.intro (hlk1 hlt) (show x / 2 < c.vars by omega)))))))
      clear hO hbl hbw hx hlk hlk1 hxb x1
      go_upto_region 5 with fail
      refine wp_region_E (fun w' => ∀ o, w'.cell? ⟨w.heap.size + 1, o, none⟩ = #[Value.int .i64 c.inp, .slice s k cc, .slice none 0 0, .slice none 0 0][o]?) 8 (.q 0 (.q 1 (.q 2 (.q 3 (.e 4 (.e 5 (.e 6 (.q 7 (.z 8))))))))) (by kernel_rfl) (by kernel_rfl) (by kernel_rfl) (by kernel_rfl) (by kernel_rfl) (by kernel_rfl) hcB ?_
      repeat (first | (refine orde_s (o := ?_) ?_ ?_ ?_; rotate_left 1; (focus ((simp only [zD, zE, zF]) <;> rfl)); (focus rfl); simp only [Act.put, zA, zB, zC]) | (refine orde_q (o := ?_) (v := ?_) ?_ ?_ ?_ ?_; rotate_left 2; (focus ((simp only [zD, zE, zF]) <;> rfl)); (focus rfl); (focus (intro w' hS; (try dsimp only at hS); go_split_ands; go_simp; (try (with_reducible rfl)))); simp only [Act.put, zA, zB, zC]))
      refine orde_e ?_
      (refine ope_e (o := ?_) ?_ ?_ (fun K hK => ?_); rotate_left 1; (focus ((simp only [zD, zE, zF]) <;> rfl)); (focus rfl); go_simp)
      refine (H.out.2.2.2.2.2 _ x HR.out.2.2.1.drew x0 HR.out.2.2.2.2.2.2).mono ?_
      rintro e wa ⟨rfl, rfl⟩
      refine hK.out _ _ hcB ?_
      clear hK K
      (try simp only [Act.put, zA, zB, zC])
      refine orde_e ?_
      (refine ope_e (o := ?_) ?_ ?_ (fun K hK => ?_); rotate_left 1; (focus ((simp only [zD, zE, zF]) <;> rfl)); (focus rfl); go_simp)
      have hb1 : Below wr.heap.size wr (wr.alloc (.cells #[.int .i64 (f x)] 3)).drew := ((Below.refl _ _).alloc (Nat.le_refl _) _).drew
      have hs1 : Sl (wr.alloc (.cells #[.int .i64 (f x)] 3)).drew (some ⟨wr.heap.size, 0, none⟩) [.int .i64 (f x)] := (Sl.new wr _ _).drew
      revert hb1 hs1
      generalize (wr.alloc (.cells #[.int .i64 (f x)] 3)).drew = W1
      intro hb1 hs1
      have hO1 := HR.out.1.below hb1
      refine hK.out _ _ (blk_all hO1.blk).1 ?_
      clear hK K
      have HW1 := Lib.hid (And.intro hO1 (And.intro hs1 (And.intro (HR.out.2.1.trans (hb1.mono (by omega))) (show w.heap.size + 2 ≤ W1.heap.size from Nat.le_trans hsz hb1.size))))
      have hs1z := HW1.out.2.2.2
      clear hO1 hb1 hs1 hcB
      (try simp only [Act.put, zA, zB, zC])
      refine orde_e ?_
      (refine ope_e (o := ?_) ?_ ?_ (fun K hK => ?_); rotate_left 1; (focus ((simp only [zD, zE, zF]) <;> rfl)); (focus rfl))
      refine wp_app (.tmp 27) (.tmp 31) rfl elem_int (by have h1 := HW1.out.1.n; rw [HR.out.2.2.2.2.1] at h1; exact h1) rfl rfl (by simp) HW1.out.2.1 (by simp [Value.oneCell']) (k + 1) rfl (ints ((c.next.take (k + 1)).map f)) (by rw [map_snoc HR.out.2.2.2.1, ← ints_append]; rfl) (by unfold maxLen; omega) (by omega) (by omega) ?_
      intro s6 c6 W2 ho6 hb6 hg6 hob6
      obtain ⟨hB2, hO2⟩ := HW1.out.1.pushN hg6 (xn' := ((c.next.take (k + 1)).map f)) (by rw [HR.out.2.2.2.2.2.1]; exact ho6) hob6
      refine hK.out _ _ (blk_all hB2).1 ?_
      clear hK K
      have y1 : W2.cell? ⟨w.heap.size + 1, 1, none⟩ = some (.slice s k cc) := blk_cell hB2
      have y2 : W2.frozen? ⟨w.heap.size + 1, 1, none⟩ = false := blk_free hB2
      have HW2 := Lib.hid (And.intro hO2 (HW1.out.2.2.1.trans hb6))
      clear hB2 hO2 ho6 hb6 hg6 hob6
      (try simp only [Act.put, zA, zB, zC])
      repeat (first | (refine orde_s (o := ?_) ?_ ?_ ?_; rotate_left 1; (focus ((simp only [zD, zE, zF]) <;> rfl)); (focus rfl); simp only [Act.put, zA, zB, zC]) | (refine orde_q (o := ?_) (v := ?_) ?_ ?_ ?_ ?_; rotate_left 2; (focus ((simp only [zD, zE, zF]) <;> rfl)); (focus rfl); (focus (intro w' hS; (try dsimp only at hS); go_split_ands; go_simp; (try (with_reducible rfl)))); simp only [Act.put, zA, zB, zC]))
      (refine orde_z (o := ?_) ?_ ?_ (fun K hK => ?_); rotate_left 1; (focus ((simp only [zD, zE, zF]) <;> rfl)); (focus rfl); go_simp)
      refine hK.out _ _ ?_
      clear hK K y1 y2
      go_wp2_with fail
      go_roundw
      case rel => exact ⟨k + 1, s6, c6, by omega, by go_num, HW2.out.1, HW2.out.2.setCell (p := ⟨w.heap.size + 1, 1, none⟩) (Nat.le_refl _) _⟩
      case measure => simp [intOf]; omega
    · obtain rfl : k = c.next.length := by omega
      rw [List.take_length] at hO
      have HX1 := Lib.hid (And.intro hO (And.intro hbl hbw))
      have ccx := (CC.out _ hbw)
      obtain ⟨z0, z1, z2, z3⟩ := ccx
      clear hO hbl hbw hlk hlk1
      obtain ⟨vN, hvN⟩ : ∃ vN, vN = Value.slice s c.next.length cc := ⟨_, rfl⟩
      have hO := HX1.out.1
      have hbl := HX1.out.2.1
      rw [← hvN] at hO
      have HY1 := Lib.hid (And.intro hO hbl)
      have HvN : Hid (∃ s' c', vN = Value.slice s' c.next.length c') := ⟨_, _, hvN⟩
      clear hO hbl hvN HX1
      go_wp2_with fail
      clear z0 z1 z2 z3
      go_loopw [40] (fun i wr => ∃ (k : Nat) (s : Option Addr) (cc : Nat), k ≤ c.gates.length ∧ i = .int .i64 k ∧ OutC wr (w.heap.size + 1) (w.heap.size + 1) c.inp (c.next.map f) (mapG f (c.gates.take k)) [] vN (.slice s k cc) (.slice none 0 0) ∧ Below (w.heap.size + 1) W0 wr) (fun i _ => c.gates.length - (intOf i).toNat)
      case atStart => exact ⟨0, _, _, Nat.zero_le _, rfl, HY1.out.1, HY1.out.2⟩
      case round =>
        obtain ⟨k, s, cc, hk, rfl, hO, hbl⟩ := hrel
        have hbw : Below w.heap.size w wr := H0.out.1.trans (hbl.mono (Nat.le_succ _))
        have hsz : w.heap.size + 2 ≤ wr.heap.size := Nat.le_trans H0.out.2.2.2 hbl.size
        have hlk : (mapG f (c.gates.take k)).length = k := by simp [mapG]; omega
        have hlk1 : k < c.gates.length → (mapG f (c.gates.take (k + 1))).length = k + 1 := fun h => by simp [mapG]; omega
        by_cases hlt : k < c.gates.length
        · obtain ⟨g, hg⟩ := get_of_lt hlt
          obtain ⟨gb, gf, rfl, hgb, zx, zy⟩ := H.out.2.2.1.gate hbw hg
          obtain ⟨⟨a0, a1⟩, b0, b1⟩ := valid_gate H.out.2.2.2.2.1 hg
          have hfv := (valid_first H.out.2.2.2.2.1).2.2.1
          have hblkL := blk_lt hO.blk
          have HR := Lib.hid (And.intro hO (And.intro hbl (And.intro hbw (And.intro hg (And.intro hlk (And.intro (hlk1 hlt) (show g.a / 2 < c.vars ∧ g.b / 2 < c.vars by omega)))))))
          clear hO hbl hbw hg hlk hlk1 hgb a1 b1 hfv
          go_upto_region 10 with fail
          have hb0 : Below wr.heap.size wr (wr.alloc (.cells #[.int .i64 g.a, .int .i64 g.b] 24)) := (Below.refl _ _).alloc (Nat.le_refl _) _
          have hn0 := blk_new wr (.cells #[.int .i64 g.a, .int .i64 g.b] 24)
          have hz0 : (wr.alloc (.cells #[.int .i64 g.a, .int .i64 g.b] 24)).heap.size = wr.heap.size + 1 := by simp
          clear zx zy
          revert hb0 hn0 hz0
          generalize wr.alloc (.cells #[.int .i64 g.a, .int .i64 g.b] 24) = WG
          intro hb0 hn0 hz0
          have hOg := HR.out.1.below hb0
          have HG := Lib.hid (And.intro hOg (And.intro hn0 (And.intro (HR.out.2.1.trans (hb0.mono (by omega))) (HR.out.2.2.1.trans (hb0.mono (by omega))))))
          have hcB := (blk_all hOg.blk).1
          have hc0 : WG.cell? ⟨wr.heap.size, 0, none⟩ = some (.int .i64 g.a) := blk_cell hn0
          have hc1 : WG.cell? ⟨wr.heap.size, 1, none⟩ = some (.int .i64 g.b) := blk_cell hn0
          clear hb0 hn0 hOg
          refine wp_region_E (fun w' => (∀ o, w'.cell? ⟨w.heap.size + 1, o, none⟩ = #[Value.int .i64 c.inp, vN, .slice s k cc, .slice none 0 0][o]?) ∧ w'.cell? ⟨wr.heap.size, 0, none⟩ = some (.int .i64 g.a) ∧ w'.cell? ⟨wr.heap.size, 1, none⟩ = some (.int .i64 g.b)) 14 (.q 0 (.q 1 (.q 2 (.q 3 (.q 4 (.q 6 (.q 7 (.q 8 (.e 5 (.e 9 (.q 10 (.e 11 (.e 12 (.q 13 (.z 14))))))))))))))) (by kernel_rfl) (by kernel_rfl) (by kernel_rfl) (by kernel_rfl) (by kernel_rfl) (by kernel_rfl) ⟨hcB, hc0, hc1⟩ ?_
          repeat (first | (refine orde_s (o := ?_) ?_ ?_ ?_; rotate_left 1; (focus ((simp only [zD, zE, zF]) <;> rfl)); (focus rfl); simp only [Act.put, zA, zB, zC]) | (refine orde_q (o := ?_) (v := ?_) ?_ ?_ ?_ ?_; rotate_left 2; (focus ((simp only [zD, zE, zF]) <;> rfl)); (focus rfl); (focus (intro w' hS; (try dsimp only at hS); go_split_ands; go_simp; (try (with_reducible rfl)))); simp only [Act.put, zA, zB, zC]))
          refine orde_e ?_
          (refine ope_e (o := ?_) ?_ ?_ (fun K hK => ?_); rotate_left 1; (focus ((simp only [zD, zE, zF]) <;> rfl)); (focus rfl); go_simp)
          refine (H.out.2.2.2.2.2 _ g.a HG.out.2.2.2.drew a0 HR.out.2.2.2.2.2.2.1).mono ?_
          rintro e wa ⟨rfl, rfl⟩
          refine hK.out _ _ ⟨hcB, hc0, hc1⟩ ?_
          clear hK K
          (try simp only [Act.put, zA, zB, zC])
          refine orde_e ?_
          (refine ope_e (o := ?_) ?_ ?_ (fun K hK => ?_); rotate_left 1; (focus ((simp only [zD, zE, zF]) <;> rfl)); (focus rfl); go_simp)
          refine (H.out.2.2.2.2.2 _ g.b HG.out.2.2.2.drew b0 HR.out.2.2.2.2.2.2.2).mono ?_
          rintro e wa ⟨rfl, rfl⟩
          refine hK.out _ _ ⟨hcB, hc0, hc1⟩ ?_
          clear hK K
          (try simp only [Act.put, zA, zB, zC])
          repeat (first | (refine orde_s (o := ?_) ?_ ?_ ?_; rotate_left 1; (focus ((simp only [zD, zE, zF]) <;> rfl)); (focus rfl); simp only [Act.put, zA, zB, zC]) | (refine orde_q (o := ?_) (v := ?_) ?_ ?_ ?_ ?_; rotate_left 2; (focus ((simp only [zD, zE, zF]) <;> rfl)); (focus rfl); (focus (intro w' hS; (try dsimp only at hS); go_split_ands; go_simp; (try (with_reducible rfl)))); simp only [Act.put, zA, zB, zC]))
          refine orde_e ?_
          (refine ope_e (o := ?_) ?_ ?_ (fun K hK => ?_); rotate_left 1; (focus ((simp only [zD, zE, zF]) <;> rfl)); (focus rfl); go_simp)
          have hb1 : Below WG.heap.size WG (WG.alloc (.cells #[.int .i64 (f g.a), .int .i64 (f g.b)] 24)).drew := ((Below.refl _ _).alloc (Nat.le_refl _) _).drew
          have hs1 : Sl (WG.alloc (.cells #[.int .i64 (f g.a), .int .i64 (f g.b)] 24)).drew (some ⟨wr.heap.size + 1, 0, none⟩) [.int .i64 (f g.a), .int .i64 (f g.b)] := by rw [← hz0]; exact (Sl.new WG _ _).drew
          revert hb1 hs1
          generalize (WG.alloc (.cells #[.int .i64 (f g.a), .int .i64 (f g.b)] 24)).drew = W1
          intro hb1 hs1
          have hO1 := HG.out.1.below hb1
          have hg1 := blk_below hb1 (by omega) HG.out.2.1
          refine hK.out _ _ ⟨(blk_all hO1.blk).1, blk_cell hg1, blk_cell hg1⟩ ?_
          clear hK K
          have HW1 := Lib.hid (And.intro hO1 (And.intro hs1 (And.intro (HG.out.2.2.1.trans (hb1.mono (by omega))) (And.intro (show w.heap.size + 2 ≤ W1.heap.size by have := hb1.size; omega) hg1))))
          have hs1z := HW1.out.2.2.2.1
          clear hO1 hb1 hs1 hcB hc0 hc1 hg1
          (try simp only [Act.put, zA, zB, zC])
          refine orde_e ?_
          (refine ope_e (o := ?_) ?_ ?_ (fun K hK => ?_); rotate_left 1; (focus ((simp only [zD, zE, zF]) <;> rfl)); (focus rfl))
          refine wp_app (.tmp 45) (.tmp 55) rfl elem_gate (by have h1 := HW1.out.1.g; rw [HR.out.2.2.2.2.1] at h1; exact h1) rfl rfl (by simp) HW1.out.2.1 (by simp [Value.oneCell']) (k + 1) rfl (gcells (mapG f (c.gates.take (k + 1)))) (by rw [mapG_snoc HR.out.2.2.2.1, ← gcells_append]; rfl) (by unfold maxLen; omega) (by omega) (by omega) ?_
          intro s6 c6 W2 ho6 hb6 hg6 hob6
          obtain ⟨hB2, hO2⟩ := HW1.out.1.pushG hg6 (xg' := mapG f (c.gates.take (k + 1))) (by rw [HR.out.2.2.2.2.2.1]; exact ho6)
          have hgx : W2.heap[wr.heap.size]? = some (.cells #[.int .i64 g.a, .int .i64 g.b] 24 (0, 0)) := by
            rw [hg6.block wr.heap.size (blk_lt HW1.out.2.2.2.2) (fun e => by have h1 := HR.out.1.g; have h2 := (own_blk h1 e.symm).2; omega)]; exact HW1.out.2.2.2.2
          refine hK.out _ _ ⟨(blk_all hB2).1, blk_cell hgx, blk_cell hgx⟩ ?_
          clear hK K
          have y1 : W2.cell? ⟨w.heap.size + 1, 2, none⟩ = some (.slice s k cc) := blk_cell hB2
          have y2 : W2.frozen? ⟨w.heap.size + 1, 2, none⟩ = false := blk_free hB2
          have HW2 := Lib.hid (And.intro hO2 (HW1.out.2.2.1.trans hb6))
          clear hB2 hO2 ho6 hb6 hg6 hob6 hgx
          (try simp only [Act.put, zA, zB, zC])
          repeat (first | (refine orde_s (o := ?_) ?_ ?_ ?_; rotate_left 1; (focus ((simp only [zD, zE, zF]) <;> rfl)); (focus rfl); simp only [Act.put, zA, zB, zC]) | (refine orde_q (o := ?_) (v := ?_) ?_ ?_ ?_ ?_; rotate_left 2; (focus ((simp only [zD, zE, zF]) <;> rfl)); (focus rfl); (focus (intro w' hS; (try dsimp only at hS); go_split_ands; go_simp; (try (with_reducible rfl)))); simp only [Act.put, zA, zB, zC]))
          (refine orde_z (o := ?_) ?_ ?_ (fun K hK => ?_); rotate_left 1; (focus ((simp only [zD, zE, zF]) <;> rfl)); (focus rfl); go_simp)
          refine hK.out _ _ ?_
          clear hK K y1 y2
          go_wp2_with fail
          go_roundw
          case rel => exact ⟨k + 1, s6, c6, by omega, by go_num, HW2.out.1, HW2.out.2.setCell (p := ⟨w.heap.size + 1, 2, none⟩) (Nat.le_refl _) _⟩
          case measure => simp [intOf]; omega
        · obtain rfl : k = c.gates.length := by omega
          rw [List.take_length] at hO
          obtain ⟨vG, hvG⟩ : ∃ vG, vG = Value.slice s c.gates.length cc := ⟨_, rfl⟩
          rw [← hvG] at hO
          have HY2 := Lib.hid (And.intro hO hbl)
          have ccx := (CC.out _ hbw)
          obtain ⟨z0, z1, z2, z3⟩ := ccx
          have HvG : Hid (∃ s' c', vG = Value.slice s' c.gates.length c') := ⟨_, _, hvG⟩
          clear hO hbl hbw hlk hlk1 hvG
          go_wp2_with fail
          clear z0 z1 z2 z3
          go_loopw [64] (fun i wr => ∃ (k : Nat) (s : Option Addr) (cc : Nat), k ≤ c.outs.length ∧ i = .int .i64 k ∧ OutC wr (w.heap.size + 1) (w.heap.size + 1) c.inp (c.next.map f) (mapG f c.gates) ((c.outs.take k).map f) (vN) (vG) (.slice s k cc) ∧ Below (w.heap.size + 1) W0 wr) (fun i _ => c.outs.length - (intOf i).toNat)
          case atStart => exact ⟨0, _, _, Nat.zero_le _, rfl, HY2.out.1, HY2.out.2⟩
          case round =>
            obtain ⟨k, s, cc, hk, rfl, hO, hbl⟩ := hrel
            have hbw : Below w.heap.size w wr := H0.out.1.trans (hbl.mono (Nat.le_succ _))
            have hsz : w.heap.size + 2 ≤ wr.heap.size := Nat.le_trans H0.out.2.2.2 hbl.size
            have hlk : ((c.outs.take k).map f).length = k := by simp; omega
            have hlk1 : k < c.outs.length → ((c.outs.take (k + 1)).map f).length = k + 1 := fun h => by simp; omega
            by_cases hlt : k < c.outs.length
            · obtain ⟨x, hx⟩ := get_of_lt hlt
              obtain ⟨xb, xf, rfl, hxb, zx⟩ := H.out.2.2.2.1.int hbw hx
              obtain ⟨x0, x1⟩ : 0 ≤ x ∧ x < 2 * c.vars := H.out.2.2.2.2.1.outs x (List.mem_of_getElem? hx)
              have hcB := (blk_all hO.blk).1
              have HR := Lib.hid (And.intro hO (And.intro hbl (And.intro hbw (And.intro hx (And.intro hlk (And.intro (hlk1 hlt) (show x / 2 < c.vars by omega)))))))
              clear hO hbl hbw hx hlk hlk1 hxb x1
              go_upto_region 15 with fail
              refine wp_region_E (fun w' => ∀ o, w'.cell? ⟨w.heap.size + 1, o, none⟩ = #[Value.int .i64 c.inp, vN, vG, .slice s k cc][o]?) 8 (.q 0 (.q 1 (.q 2 (.q 3 (.e 4 (.e 5 (.e 6 (.q 7 (.z 8))))))))) (by kernel_rfl) (by kernel_rfl) (by kernel_rfl) (by kernel_rfl) (by kernel_rfl) (by kernel_rfl) hcB ?_
              repeat (first | (refine orde_s (o := ?_) ?_ ?_ ?_; rotate_left 1; (focus ((simp only [zD, zE, zF]) <;> rfl)); (focus rfl); simp only [Act.put, zA, zB, zC]) | (refine orde_q (o := ?_) (v := ?_) ?_ ?_ ?_ ?_; rotate_left 2; (focus ((simp only [zD, zE, zF]) <;> rfl)); (focus rfl); (focus (intro w' hS; (try dsimp only at hS); go_split_ands; go_simp; (try (with_reducible rfl)))); simp only [Act.put, zA, zB, zC]))
              refine orde_e ?_
              (refine ope_e (o := ?_) ?_ ?_ (fun K hK => ?_); rotate_left 1; (focus ((simp only [zD, zE, zF]) <;> rfl)); (focus rfl); go_simp)
              refine (H.out.2.2.2.2.2 _ x HR.out.2.2.1.drew x0 HR.out.2.2.2.2.2.2).mono ?_
              rintro e wa ⟨rfl, rfl⟩
              refine hK.out _ _ hcB ?_
              clear hK K
              (try simp only [Act.put, zA, zB, zC])
              refine orde_e ?_
              (refine ope_e (o := ?_) ?_ ?_ (fun K hK => ?_); rotate_left 1; (focus ((simp only [zD, zE, zF]) <;> rfl)); (focus rfl); go_simp)
              have hb1 : Below wr.heap.size wr (wr.alloc (.cells #[.int .i64 (f x)] 3)).drew := ((Below.refl _ _).alloc (Nat.le_refl _) _).drew
              have hs1 : Sl (wr.alloc (.cells #[.int .i64 (f x)] 3)).drew (some ⟨wr.heap.size, 0, none⟩) [.int .i64 (f x)] := (Sl.new wr _ _).drew
              revert hb1 hs1
              generalize (wr.alloc (.cells #[.int .i64 (f x)] 3)).drew = W1
              intro hb1 hs1
              have hO1 := HR.out.1.below hb1
              refine hK.out _ _ (blk_all hO1.blk).1 ?_
              clear hK K
              have HW1 := Lib.hid (And.intro hO1 (And.intro hs1 (And.intro (HR.out.2.1.trans (hb1.mono (by omega))) (show w.heap.size + 2 ≤ W1.heap.size from Nat.le_trans hsz hb1.size))))
              have hs1z := HW1.out.2.2.2
              clear hO1 hb1 hs1 hcB
              (try simp only [Act.put, zA, zB, zC])
              refine orde_e ?_
              (refine ope_e (o := ?_) ?_ ?_ (fun K hK => ?_); rotate_left 1; (focus ((simp only [zD, zE, zF]) <;> rfl)); (focus rfl))
              refine wp_app (.tmp 69) (.tmp 73) rfl elem_int (by have h1 := HW1.out.1.o; rw [HR.out.2.2.2.2.1] at h1; exact h1) rfl rfl (by simp) HW1.out.2.1 (by simp [Value.oneCell']) (k + 1) rfl (ints ((c.outs.take (k + 1)).map f)) (by rw [map_snoc HR.out.2.2.2.1, ← ints_append]; rfl) (by unfold maxLen; omega) (by omega) (by omega) ?_
              intro s6 c6 W2 ho6 hb6 hg6 hob6
              obtain ⟨hB2, hO2⟩ := HW1.out.1.pushO hg6 (xo' := ((c.outs.take (k + 1)).map f)) (by rw [HR.out.2.2.2.2.2.1]; exact ho6) hob6
              refine hK.out _ _ (blk_all hB2).1 ?_
              clear hK K
              have y1 : W2.cell? ⟨w.heap.size + 1, 3, none⟩ = some (.slice s k cc) := blk_cell hB2
              have y2 : W2.frozen? ⟨w.heap.size + 1, 3, none⟩ = false := blk_free hB2
              have HW2 := Lib.hid (And.intro hO2 (HW1.out.2.2.1.trans hb6))
              clear hB2 hO2 ho6 hb6 hg6 hob6
              (try simp only [Act.put, zA, zB, zC])
              repeat (first | (refine orde_s (o := ?_) ?_ ?_ ?_; rotate_left 1; (focus ((simp only [zD, zE, zF]) <;> rfl)); (focus rfl); simp only [Act.put, zA, zB, zC]) | (refine orde_q (o := ?_) (v := ?_) ?_ ?_ ?_ ?_; rotate_left 2; (focus ((simp only [zD, zE, zF]) <;> rfl)); (focus rfl); (focus (intro w' hS; (try dsimp only at hS); go_split_ands; go_simp; (try (with_reducible rfl)))); simp only [Act.put, zA, zB, zC]))
              (refine orde_z (o := ?_) ?_ ?_ (fun K hK => ?_); rotate_left 1; (focus ((simp only [zD, zE, zF]) <;> rfl)); (focus rfl); go_simp)
              refine hK.out _ _ ?_
              clear hK K y1 y2
              go_wp2_with fail
              go_roundw
              case rel => exact ⟨k + 1, s6, c6, by omega, by go_num, HW2.out.1, HW2.out.2.setCell (p := ⟨w.heap.size + 1, 3, none⟩) (Nat.le_refl _) _⟩
              case measure => simp [intOf]; omega
            · obtain rfl : k = c.outs.length := by omega
              rw [List.take_length] at hO
              have HX3 := Lib.hid (And.intro hO (And.intro hbl hbw))
              have ccx := (CC.out _ hbw)
              obtain ⟨z0, z1, z2, z3⟩ := ccx
              clear hO hbl hbw hlk hlk1
              have hO := HX3.out.1
              obtain ⟨sN, cN, rfl⟩ := HvN.out
              obtain ⟨sG, cG, rfl⟩ := HvG.out
              have hres := blk_below HX3.out.2.1 (Nat.lt_succ_self _) H0.out.2.2.1
              have cB := (blk_all hO.blk).1
              obtain ⟨rc, rf⟩ := blk_all hres
              have HF := Lib.hid (And.intro hO (And.intro HX3.out.2.2 hres))
              clear hO hres
              go_wp2_with fail
              have e1 : (c.next.map f).length = c.next.length := by simp
              have e2 : (mapG f c.gates).length = c.gates.length := by simp [mapG]
              have e3 : (c.outs.map f).length = c.outs.length := by simp
              have ne : ∀ {v : Value} {e : TypeId} {sz n : Nat} {xs : List Value}, wr.ownsRow (w.heap.size + 1) e sz v n xs → v.ownBlock ≠ some w.heap.size := fun h he => by
                have := (own_blk h he).1; omega
              have hZ : ((((wr.setCell ⟨w.heap.size, 0, none⟩ (.int .i64 c.inp)).setCell ⟨w.heap.size, 1, none⟩ (.slice sN c.next.length cN)).setCell ⟨w.heap.size, 2, none⟩ (.slice sG c.gates.length cG)).setCell ⟨w.heap.size, 3, none⟩ (.slice s c.outs.length cc)).heap[w.heap.size]? = some (.cells #[.int .i64 c.inp, .slice sN c.next.length cN, .slice sG c.gates.length cG, .slice s c.outs.length cc] 28 (0, 0)) := by
                simpa using blk_set (o := 3) (v := .slice s c.outs.length cc) (blk_set (o := 2) (v := .slice sG c.gates.length cG) (blk_set (o := 1) (v := .slice sN c.next.length cN) (blk_set (o := 0) (v := .int .i64 c.inp) HF.out.2.2)))
              have hR : CirOwn ((((wr.setCell ⟨w.heap.size, 0, none⟩ (.int .i64 c.inp)).setCell ⟨w.heap.size, 1, none⟩ (.slice sN c.next.length cN)).setCell ⟨w.heap.size, 2, none⟩ (.slice sG c.gates.length cG)).setCell ⟨w.heap.size, 3, none⟩ (.slice s c.outs.length cc)) w.heap.size (c.mapC f) (.slice sN c.next.length cN) (.slice sG c.gates.length cG) (.slice s c.outs.length cc) :=
                ⟨own_sets4 HF.out.1.n (ne HF.out.1.n), own_sets4 HF.out.1.g (ne HF.out.1.g), own_sets4 HF.out.1.o (ne HF.out.1.o), HF.out.1.ne, by rw [show (c.mapC f).next.length = c.next.length from e1]; omega, by rw [show (c.mapC f).gates.length = c.gates.length from e2]; omega, by rw [show (c.mapC f).outs.length = c.outs.length from e3]; omega⟩
              have hB := (((HF.out.2.1.setCell (p := ⟨w.heap.size, 0, none⟩) (Nat.le_refl _) (.int .i64 c.inp)).setCell (p := ⟨w.heap.size, 1, none⟩) (Nat.le_refl _) (.slice sN c.next.length cN)).setCell (p := ⟨w.heap.size, 2, none⟩) (Nat.le_refl _) (.slice sG c.gates.length cG)).setCell (p := ⟨w.heap.size, 3, none⟩) (Nat.le_refl _) (.slice s c.outs.length cc)
              revert hZ hR hB
              generalize ((((wr.setCell ⟨w.heap.size, 0, none⟩ (.int .i64 c.inp)).setCell ⟨w.heap.size, 1, none⟩ (.slice sN c.next.length cN)).setCell ⟨w.heap.size, 2, none⟩ (.slice sG c.gates.length cG)).setCell ⟨w.heap.size, 3, none⟩ (.slice s c.outs.length cc)) = WZ
              intro hZ hR hB
              have cr := (blk_all hZ).1
              exact bodyPost_ret (v := .agg #[.int .i64 c.inp, .slice sN c.next.length cN, .slice sG c.gates.length cG, .slice s c.outs.length cc]) (by simp [results, Try.results64, go_sem, cr]) rfl ⟨_, _, _, rfl, hR, hB⟩

theorem own_sets4' {w : World} {base base' r : Nat} {e : TypeId} {size : Nat} {v : Value} {n : Nat} {xs : List Value} (h : w.ownsRow base' e size v n xs) (hr : r < base') (hb : base ≤ base') {a b c d : Value} : ((((w.setCell ⟨r, 0, none⟩ a).setCell ⟨r, 1, none⟩ b).setCell ⟨r, 2, none⟩ c).setCell ⟨r, 3, none⟩ d).ownsRow base e size v n xs :=
  have hne : v.ownBlock ≠ some r := fun he => by have := (own_blk h he).1; omega
  own_set_ne (own_set_ne (own_set_ne (own_set_ne (own_base h hb) hne _) hne _) hne _) hne _

theorem CirOwn.sets4 {w : World} {base base' r : Nat} {c : Cir} {vn vg vo : Value} (h : CirOwn w base' c vn vg vo) (hr : r < base') (hb : base ≤ base') {a b' c' d : Value} : CirOwn ((((w.setCell ⟨r, 0, none⟩ a).setCell ⟨r, 1, none⟩ b').setCell ⟨r, 2, none⟩ c').setCell ⟨r, 3, none⟩ d) base c vn vg vo :=
  ⟨own_sets4' h.n hr hb, own_sets4' h.g hr hb, own_sets4' h.o hr hb, h.ne, h.l1, h.l2, h.l3⟩

set_option maxHeartbeats 1600000 in
theorem force_any (b : Nat) (c : Cir) (sn sg so : Option Addr) (cn cg co : Nat) (p : Int) (val : Bool) (w : World) (h : CirAt w b c.inp (.slice sn c.next.length cn) (.slice sg c.gates.length cg) (.slice so c.outs.length co))
    (hn : Sl w sn (ints c.next)) (hg : Sl w sg (gcells c.gates)) (ho : Sl w so (ints c.outs)) (hv : c.valid) :
    Calls Try.prog 69 #[.pointer (some ⟨b, 0, none⟩), .int .i64 p, .bool val] w fun e w' => ∃ vn vg vo, e = .returned (.agg #[.int .i64 c.inp, vn, vg, vo]) ∧ CirOwn w' w.heap.size (c.mapC (forceL p val)) vn vg vo ∧ Below w.heap.size w w' := by
  have HB : Hid (b < w.heap.size) := World.block_lt_of_cell? w _ h.h0
  have hb0 : Below w.heap.size w (((w.alloc (.cells #[.int .i64 p] 3)).alloc (.cells #[.bool val] 4)).alloc (.cells #[.int .i64 0, .slice none 0 0, .slice none 0 0, .slice none 0 0] 28)) := by go_grown
  have hk := blk3 w (.cells #[.int .i64 p] 3) (.cells #[.bool val] 4) (.cells #[.int .i64 0, .slice none 0 0, .slice none 0 0, .slice none 0 0] 28)
  have hv22 : c.vars ≤ 22 := by have := valid_first hv; omega
  have H := Lib.hid (And.intro h (And.intro hn (And.intro hg (And.intro ho (And.intro hv hv22)))))
  have H0 := Lib.hid (And.intro hb0 hk)
  clear h hn hg ho hv hb0 hk hv22
  go_enter Try.func69, Try.ntmps69
  go_wp2_with fail
  revert H0
  generalize (((w.alloc (.cells #[.int .i64 p] 3)).alloc (.cells #[.bool val] 4)).alloc (.cells #[.int .i64 0, .slice none 0 0, .slice none 0 0, .slice none 0 0] 28)) = W0
  intro H0
  refine (replaced_any b w.heap.size (w.heap.size + 1) c (forceL p val) sn sg so cn cg co W0 ⟨(H0.out.1.cell (p := ⟨b, 0, none⟩) HB.out).trans H.out.1.h0, (H0.out.1.cell (p := ⟨b, 1, none⟩) HB.out).trans H.out.1.h1, (H0.out.1.cell (p := ⟨b, 2, none⟩) HB.out).trans H.out.1.h2, (H0.out.1.cell (p := ⟨b, 3, none⟩) HB.out).trans H.out.1.h3⟩ (H.out.2.1.mono H0.out.1) (H.out.2.2.1.mono H0.out.1) (H.out.2.2.2.1.mono H0.out.1) H.out.2.2.2.2.1 (fun W l hW h0 h1 => force1_any w.heap.size (w.heap.size + 1) l p val W (blk_cell (blk_below hW (by have := H0.out.2.2.2.2; omega) H0.out.2.1)) (blk_cell (blk_below hW (by have := H0.out.2.2.2.2; omega) H0.out.2.2.1)) h0 (by have := H.out.2.2.2.2.2; omega))).mono ?_
  rintro e w1 ⟨vn, vg, vo, rfl, hR, hq⟩
  obtain ⟨s1, c1, rfl⟩ := own_shape hR.n
  obtain ⟨s2, c2, rfl⟩ := own_shape hR.g
  obtain ⟨s3, c3, rfl⟩ := own_shape hR.o
  have hz := H0.out.2.2.2.2
  have hres := blk_below hq (by omega) H0.out.2.2.2.1
  obtain ⟨rc, rf⟩ := blk_all hres
  have HF := Lib.hid (And.intro hR (And.intro (H0.out.1.trans (hq.mono (by omega))) hres))
  rw [hz] at hR
  have HF2 := Lib.hid hR
  clear hR hq hres
  go_wp2_with fail
  have hZ : ((((w1.setCell ⟨w.heap.size + 2, 0, none⟩ (.int .i64 c.inp)).setCell ⟨w.heap.size + 2, 1, none⟩ (.slice s1 (c.mapC (forceL p val)).next.length c1)).setCell ⟨w.heap.size + 2, 2, none⟩ (.slice s2 (c.mapC (forceL p val)).gates.length c2)).setCell ⟨w.heap.size + 2, 3, none⟩ (.slice s3 (c.mapC (forceL p val)).outs.length c3)).heap[w.heap.size + 2]? = some (.cells #[.int .i64 c.inp, .slice s1 (c.mapC (forceL p val)).next.length c1, .slice s2 (c.mapC (forceL p val)).gates.length c2, .slice s3 (c.mapC (forceL p val)).outs.length c3] 28 (0, 0)) := by
    simpa using blk_set (o := 3) (v := .slice s3 (c.mapC (forceL p val)).outs.length c3) (blk_set (o := 2) (v := .slice s2 (c.mapC (forceL p val)).gates.length c2) (blk_set (o := 1) (v := .slice s1 (c.mapC (forceL p val)).next.length c1) (blk_set (o := 0) (v := .int .i64 c.inp) HF.out.2.2)))
  have hR := (HF2.out).sets4 (r := w.heap.size + 2) (by omega) (base := w.heap.size) (by omega) (a := .int .i64 c.inp) (b' := .slice s1 (c.mapC (forceL p val)).next.length c1) (c' := .slice s2 (c.mapC (forceL p val)).gates.length c2) (d := .slice s3 (c.mapC (forceL p val)).outs.length c3)
  have hB := ((((HF.out.2.1).setCell (p := ⟨w.heap.size + 2, 0, none⟩) (by simp) (.int .i64 c.inp)).setCell (p := ⟨w.heap.size + 2, 1, none⟩) (by simp) (.slice s1 (c.mapC (forceL p val)).next.length c1)).setCell (p := ⟨w.heap.size + 2, 2, none⟩) (by simp) (.slice s2 (c.mapC (forceL p val)).gates.length c2)).setCell (p := ⟨w.heap.size + 2, 3, none⟩) (by simp) (.slice s3 (c.mapC (forceL p val)).outs.length c3)
  revert hZ hR hB
  generalize ((((w1.setCell ⟨w.heap.size + 2, 0, none⟩ (.int .i64 c.inp)).setCell ⟨w.heap.size + 2, 1, none⟩ (.slice s1 (c.mapC (forceL p val)).next.length c1)).setCell ⟨w.heap.size + 2, 2, none⟩ (.slice s2 (c.mapC (forceL p val)).gates.length c2)).setCell ⟨w.heap.size + 2, 3, none⟩ (.slice s3 (c.mapC (forceL p val)).outs.length c3)) = WZ
  intro hZ hR hB
  have cr := (blk_all hZ).1
  exact bodyPost_ret (v := .agg #[.int .i64 c.inp, .slice s1 (c.mapC (forceL p val)).next.length c1, .slice s2 (c.mapC (forceL p val)).gates.length c2, .slice s3 (c.mapC (forceL p val)).outs.length c3]) (by simp [results, Try.results69, go_sem, cr]) rfl ⟨_, _, _, rfl, hR, hB⟩

theorem own_cv {w : World} {base : Nat} {r : Cir} {vn vg vo : Value} (h : CirOwn w base r vn vg vo) : CirV w (.agg #[.int .i64 r.inp, vn, vg, vo]) r := by
  obtain ⟨sn, cn, rfl⟩ := own_shape h.n
  obtain ⟨sg, cg, rfl⟩ := own_shape h.g
  obtain ⟨so, co, rfl⟩ := own_shape h.o
  exact ⟨_, _, _, _, _, _, rfl, own_sl h.n, own_sl h.g, own_sl h.o, h.l1, h.l2, h.l3⟩

theorem own_cbelow {w w' : World} {base : Nat} {r : Cir} {vn vg vo : Value} (h : CirOwn w base r vn vg vo) (hb : Below w.heap.size w w') : CirOwn w' base r vn vg vo :=
  ⟨own_below h.n hb, own_below h.g hb, own_below h.o hb, h.ne, h.l1, h.l2, h.l3⟩

theorem below_al (w : World) (o : Obj) : Below w.heap.size w (w.alloc o) := (Below.refl _ _).alloc (Nat.le_refl _) _

/-! A circuit that is being drawn: the reader behind block R, the circuit in block B. -/

structure KT (R : Nat) (s : Option Addr) (c : Nat) (xs : List Int) (w0 : World) (B : Nat) (inp : Int) (xn : List Int) (xg : List Gt) (xo : List Int) (vn vg vo : Value) (p : Nat) (w : World) : Prop where
  out : OutC w w0.heap.size B inp xn xg xo vn vg vo
  rd : Rd w R s c xs p
  kp : Kp R w0.heap.size w0 w
  hR : R < w0.heap.size
  hB : w0.heap.size ≤ B

theorem KT.upd {R : Nat} {s : Option Addr} {c : Nat} {xs : List Int} {w0 : World} {B : Nat} {inp : Int} {xn : List Int} {xg : List Gt} {xo : List Int} {vn vg vo : Value} {p p2 : Nat} {w1 w2 : World} (h : KT R s c xs w0 B inp xn xg xo vn vg vo p w1) (hr : Rd w2 R s c xs p2) (hu : Upd R w1 w2) : KT R s c xs w0 B inp xn xg xo vn vg vo p2 w2 := by
  have h1 := h.hR; have h2 := h.hB; have h3 := blk_lt h.out.blk
  have k : Kp R w1.heap.size w1 w2 := Kp.of_upd hu (Nat.le_refl _)
  refine ⟨⟨by rw [hu.block B h3 (by simp; omega)]; exact h.out.blk, own_kp h.out.n h1 (fun k e => (own_blk h.out.n e).2) k, own_kp h.out.g h1 (fun k e => (own_blk h.out.g e).2) k, own_kp h.out.o h1 (fun k e => (own_blk h.out.o e).2) k, h.out.ne⟩, hr, h.kp.trans (k.mono (by omega)), h1, h2⟩

theorem KT.below {R : Nat} {s : Option Addr} {c : Nat} {xs : List Int} {w0 : World} {B : Nat} {inp : Int} {xn : List Int} {xg : List Gt} {xo : List Int} {vn vg vo : Value} {p : Nat} {w1 w2 : World} (h : KT R s c xs w0 B inp xn xg xo vn vg vo p w1) (hb : Below w1.heap.size w1 w2) : KT R s c xs w0 B inp xn xg xo vn vg vo p w2 :=
  h.upd (h.rd.mono hb) (Upd.of_below hb)

theorem KT.alloc {R : Nat} {s : Option Addr} {c : Nat} {xs : List Int} {w0 : World} {B : Nat} {inp : Int} {xn : List Int} {xg : List Gt} {xo : List Int} {vn vg vo : Value} {p : Nat} {w1 : World} (h : KT R s c xs w0 B inp xn xg xo vn vg vo p w1) (o : Obj) : KT R s c xs w0 B inp xn xg xo vn vg vo p (w1.alloc o) :=
  h.below ((Below.refl _ _).alloc (Nat.le_refl _) _)

theorem KT.drew {R : Nat} {s : Option Addr} {c : Nat} {xs : List Int} {w0 : World} {B : Nat} {inp : Int} {xn : List Int} {xg : List Gt} {xo : List Int} {vn vg vo : Value} {p : Nat} {w1 : World} (h : KT R s c xs w0 B inp xn xg xo vn vg vo p w1) : KT R s c xs w0 B inp xn xg xo vn vg vo p w1.drew :=
  h.below (Below.refl _ _).drew

theorem KT.cells {R : Nat} {s : Option Addr} {c : Nat} {xs : List Int} {w0 : World} {B : Nat} {inp : Int} {xn : List Int} {xg : List Gt} {xo : List Int} {vn vg vo : Value} {p : Nat} {w1 : World} (h : KT R s c xs w0 B inp xn xg xo vn vg vo p w1) : (∀ o, w1.cell? ⟨B, o, none⟩ = #[Value.int .i64 inp, vn, vg, vo][o]?) ∧ ∀ o, w1.frozen? ⟨B, o, none⟩ = false := blk_all h.out.blk

theorem KT.kpG {R : Nat} {s : Option Addr} {c : Nat} {xs : List Int} {w0 : World} {B : Nat} {inp : Int} {xn : List Int} {xg : List Gt} {xo : List Int} {vn vg vo : Value} {p : Nat} {w1 w2 : World} (h : KT R s c xs w0 B inp xn xg xo vn vg vo p w1) (hb : Below w0.heap.size w1 w2) : Rd w2 R s c xs p ∧ Kp R w0.heap.size w0 w2 :=
  ⟨h.rd.grown hb h.hR, h.kp.trans (Kp.of_below hb)⟩

theorem KT.sz {R : Nat} {s : Option Addr} {c : Nat} {xs : List Int} {w0 : World} {B : Nat} {inp : Int} {xn : List Int} {xg : List Gt} {xo : List Int} {vn vg vo : Value} {p : Nat} {w1 : World} (h : KT R s c xs w0 B inp xn xg xo vn vg vo p w1) : w0.heap.size ≤ w1.heap.size := h.kp.size

theorem KT.pushN {R : Nat} {s : Option Addr} {c : Nat} {xs : List Int} {w0 : World} {B : Nat} {inp : Int} {xn xn' : List Int} {xg : List Gt} {xo : List Int} {vn vn' vg vo : Value} {p : Nat} {w1 w2 : World} (h : KT R s c xs w0 B inp xn xg xo vn vg vo p w1)
    (hg : w1.grownBy w2 vn.ownBlock) (ho : w2.ownsRow w0.heap.size 3 1 vn' xn'.length (ints xn')) (hb : vn'.ownBlock = vn.ownBlock ∨ vn'.ownBlock = some w1.heap.size) : w2.heap[B]? = some (.cells #[.int .i64 inp, vn, vg, vo] 28 (0, 0)) ∧ KT R s c xs w0 B inp xn' xg xo vn' vg vo p (w2.setCell ⟨B, 1, none⟩ vn') := by
  obtain ⟨a, b⟩ := h.out.pushN hg ho hb
  have hb2 : Below w0.heap.size w1 w2 := (Below.refl _ _).grown hg h.sz (fun q e => (own_blk h.out.n e).1)
  obtain ⟨r, k⟩ := h.kpG (hb2.setCell (p := ⟨B, 1, none⟩) h.hB vn')
  exact ⟨a, b, r, k, h.hR, h.hB⟩

theorem KT.pushG {R : Nat} {s : Option Addr} {c : Nat} {xs : List Int} {w0 : World} {B : Nat} {inp : Int} {xn : List Int} {xg xg' : List Gt} {xo : List Int} {vn vg vg' vo : Value} {p : Nat} {w1 w2 : World} (h : KT R s c xs w0 B inp xn xg xo vn vg vo p w1)
    (hg : w1.grownBy w2 vg.ownBlock) (ho : w2.ownsRow w0.heap.size 24 2 vg' xg'.length (gcells xg')) : w2.heap[B]? = some (.cells #[.int .i64 inp, vn, vg, vo] 28 (0, 0)) ∧ KT R s c xs w0 B inp xn xg' xo vn vg' vo p (w2.setCell ⟨B, 2, none⟩ vg') := by
  obtain ⟨a, b⟩ := h.out.pushG hg ho
  have hb2 : Below w0.heap.size w1 w2 := (Below.refl _ _).grown hg h.sz (fun q e => (own_blk h.out.g e).1)
  obtain ⟨r, k⟩ := h.kpG (hb2.setCell (p := ⟨B, 2, none⟩) h.hB vg')
  exact ⟨a, b, r, k, h.hR, h.hB⟩

theorem KT.pushO {R : Nat} {s : Option Addr} {c : Nat} {xs : List Int} {w0 : World} {B : Nat} {inp : Int} {xn : List Int} {xg : List Gt} {xo xo' : List Int} {vn vg vo vo' : Value} {p : Nat} {w1 w2 : World} (h : KT R s c xs w0 B inp xn xg xo vn vg vo p w1)
    (hg : w1.grownBy w2 vo.ownBlock) (ho : w2.ownsRow w0.heap.size 3 1 vo' xo'.length (ints xo')) (hb : vo'.ownBlock = vo.ownBlock ∨ vo'.ownBlock = some w1.heap.size) : w2.heap[B]? = some (.cells #[.int .i64 inp, vn, vg, vo] 28 (0, 0)) ∧ KT R s c xs w0 B inp xn xg xo' vn vg vo' p (w2.setCell ⟨B, 3, none⟩ vo') := by
  obtain ⟨a, b⟩ := h.out.pushO hg ho hb
  have hb2 : Below w0.heap.size w1 w2 := (Below.refl _ _).grown hg h.sz (fun q e => (own_blk h.out.o e).1)
  obtain ⟨r, k⟩ := h.kpG (hb2.setCell (p := ⟨B, 3, none⟩) h.hB vo')
  exact ⟨a, b, r, k, h.hR, h.hB⟩

theorem KT.setInp {R : Nat} {s : Option Addr} {c : Nat} {xs : List Int} {w0 : World} {B : Nat} {inp : Int} {xn : List Int} {xg : List Gt} {xo : List Int} {vn vg vo : Value} {p : Nat} {w1 : World} (h : KT R s c xs w0 B inp xn xg xo vn vg vo p w1) (y : Int) : KT R s c xs w0 B y xn xg xo vn vg vo p (w1.setCell ⟨B, 0, none⟩ (.int .i64 y)) := by
  obtain ⟨r, k⟩ := h.kpG (((Below.refl _ w1).mono h.sz).setCell (p := ⟨B, 0, none⟩) h.hB (.int .i64 y))
  exact ⟨⟨by simpa using blk_set (o := 0) (v := .int .i64 y) h.out.blk, own_set_ne h.out.n (own_tyb h.out.n h.out.blk (by decide)) _, own_set_ne h.out.g (own_tyb h.out.g h.out.blk (by decide)) _, own_set_ne h.out.o (own_tyb h.out.o h.out.blk (by decide)) _, h.out.ne⟩, r, k, h.hR, h.hB⟩

def PkK (R : Nat) (s : Option Addr) (c : Nat) (xs : List Int) (w0 : World) (B : Nat) (inp : Int) (xn : List Int) (xg : List Gt) (xo : List Int) (vn vg vo : Value) (p : Nat) (n : Int) (w1 : World) (e : Ending) (w' : World) : Prop :=
  ∃ k : Nat, e = .returned (.int .i64 k) ∧ Picked n k ∧ KT R s c xs w0 B inp xn xg xo vn vg vo (p + 1) w' ∧ Upd R w1 w' ∧ w'.heap.size = w1.heap.size

theorem pick_kt (R : Nat) (s : Option Addr) (c : Nat) (xs : List Int) (w0 : World) (B : Nat) (inp : Int) (xn : List Int) (xg : List Gt) (xo : List Int) (vn vg vo : Value) (p : Nat) (n : Int) (w1 : World) (h : KT R s c xs w0 B inp xn xg xo vn vg vo p w1) (hp : p ≤ 1000000000) (hn : n ≤ 1000000) :
    Calls Try.prog 60 #[.pointer (some ⟨R, 0, none⟩), .int .i64 n] w1 (PkK R s c xs w0 B inp xn xg xo vn vg vo p n w1) :=
  (pick_any _ _ _ _ _ _ _ h.rd (by omega) (by omega)).mono fun _ _ ⟨k, h1, h2, h3, h4, h5⟩ => by
    obtain ⟨m, rfl⟩ : ∃ m : Nat, k = m := ⟨k.toNat, by have := h2.1; omega⟩
    exact ⟨m, h1, h2, h.upd h3 h4, h4, h5⟩

theorem odd_kt (R : Nat) (s : Option Addr) (c : Nat) (xs : List Int) (w0 : World) (B : Nat) (inp : Int) (xn : List Int) (xg : List Gt) (xo : List Int) (vn vg vo : Value) (p : Nat) (n : Int) (w1 : World) (h : KT R s c xs w0 B inp xn xg xo vn vg vo p w1) (hp : p ≤ 1000000000) (hn0 : -1000 ≤ n) (hn : n ≤ 1000000000) :
    Calls Try.prog 89 #[.pointer (some ⟨R, 0, none⟩), .int .i64 n] w1 fun e w' => ∃ (k : Bool) (p' : Nat), e = .returned (.bool k) ∧ p' ≤ p + 1 ∧ KT R s c xs w0 B inp xn xg xo vn vg vo p' w' :=
  (odd_any _ _ _ _ _ _ _ h.rd (by omega) hn0 hn).mono fun _ _ ⟨k, p', h1, h2, h3, h4, _⟩ => ⟨k, p', h1, h2, h.upd h3 h4⟩

theorem alive_any (w : World) : Calls Try.prog 21 #[] w fun e w' => e = .returned (.bool true) ∧ Below w.heap.size w w' := by
  go_enter Try.func21, Try.ntmps21
  go_wp2_with (go_at_call 27; (refine (CircuitValid_i _ ⟨0, [], [], []⟩ _ ⟨none, 0, none, 0, none, 0, rfl, .inl rfl, .inl rfl, .inl rfl, by simp, by simp, by simp⟩).mono ?_); rintro e w' ⟨rfl, hq⟩; have HQ := Lib.hid hq; clear hq)
  go_ret
  exact ⟨by congr 1, HQ.out⟩

end Go.Proofs.Ytdcjiclonjillaa
