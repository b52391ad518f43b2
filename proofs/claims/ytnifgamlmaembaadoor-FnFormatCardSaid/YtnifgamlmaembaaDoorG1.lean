import Derived.Test.YtnifgamlmaembaaDoorQ1
import Derived.Test.YtnifgamlmaembaaDoorL4
import Derived.Test.YtnifgamlmaembaaDoorM1
import Derived.Test.YtnifgamlmaembaaDoorP2
namespace Go.Proofs.YtnifgamlmaembaaDoor
set_option linter.unusedVariables false
set_option linter.unusedSimpArgs false
open Go.RowKit

/-! A circuit under construction: a struct whose three slices the call itself makes. -/

theorem elem_gate : ElemOf Tryd.prog 29 52 (.agg #[.int .i64 0, .int .i64 0]) 2 16 :=
  ⟨by kernel_rfl, info_parts (by kernel_rfl), rfl, by omega⟩
theorem gcells_append (xs ys : List Gt) : gcells xs ++ gcells ys = gcells (xs ++ ys) := by
  induction xs with
  | nil => rfl
  | cons x xs ih => show .int .i64 x.a :: .int .i64 x.b :: (gcells xs ++ gcells ys) = _; rw [ih]; rfl
structure OutC (w : World) (base B : Nat) (inp : Int) (xn : List Int) (xg : List Gt) (xo : List Int) (vn vg vo : Value) : Prop where
  blk : w.heap[B]? = some (.cells #[.int .i64 inp, vn, vg, vo] 31 (0, 0))
  n : w.ownsRow base 3 1 vn xn.length (ints xn)
  g : w.ownsRow base 52 2 vg xg.length (gcells xg)
  o : w.ownsRow base 3 1 vo xo.length (ints xo)
  ne : ∀ k, vn.ownBlock = some k → vo.ownBlock ≠ some k
theorem OutC.below {w w' : World} {base B : Nat} {inp : Int} {xn : List Int} {xg : List Gt} {xo : List Int} {vn vg vo : Value} (h : OutC w base B inp xn xg xo vn vg vo) (hb : Below w.heap.size w w') : OutC w' base B inp xn xg xo vn vg vo :=
  ⟨blk_below hb (blk_lt h.blk) h.blk, own_below h.n hb, own_below h.g hb, own_below h.o hb, h.ne⟩
theorem OutC.pushN {w w2 : World} {base B : Nat} {inp : Int} {xn xn' : List Int} {xg : List Gt} {xo : List Int} {vn vn' vg vo : Value} (h : OutC w base B inp xn xg xo vn vg vo)
    (hg : w.grownBy w2 vn.ownBlock) (ho : w2.ownsRow base 3 1 vn' xn'.length (ints xn')) (hb : vn'.ownBlock = vn.ownBlock ∨ vn'.ownBlock = some w.heap.size) : w2.heap[B]? = some (.cells #[.int .i64 inp, vn, vg, vo] 31 (0, 0)) ∧ OutC (w2.setCell ⟨B, 1, none⟩ vn') base B inp xn' xg xo vn' vg vo := by
  have hB : w2.heap[B]? = some (.cells #[.int .i64 inp, vn, vg, vo] 31 (0, 0)) := by
    rw [hg.block B (blk_lt h.blk) (fun e => own_tyb h.n h.blk (by decide) e.symm)]; exact h.blk
  have hc := Chg.of_grown hg
  have lt : ∀ k, vo.ownBlock = some k → k < w.heap.size := fun k hk => (own_blk h.o hk).2
  refine ⟨hB, by simpa using blk_set (o := 1) (v := vn') hB, own_set_ne ho (own_tyb ho hB (by decide)) _, own_set_ne (hc.own h.g (fun k hk hs => own_ty h.n h.g (by decide) hs hk)) (own_tyb h.g h.blk (by decide)) _, own_set_ne (hc.own h.o (fun k hk hs => h.ne k hs hk)) (own_tyb h.o h.blk (by decide)) _, fun k hk => ?_⟩
  rcases hb with e | e
  · rw [e] at hk; exact h.ne k hk
  · rw [e] at hk; cases hk; intro hk2; have := lt _ hk2; omega
theorem OutC.pushO {w w2 : World} {base B : Nat} {inp : Int} {xn : List Int} {xg : List Gt} {xo xo' : List Int} {vn vg vo vo' : Value} (h : OutC w base B inp xn xg xo vn vg vo)
    (hg : w.grownBy w2 vo.ownBlock) (ho : w2.ownsRow base 3 1 vo' xo'.length (ints xo')) (hb : vo'.ownBlock = vo.ownBlock ∨ vo'.ownBlock = some w.heap.size) : w2.heap[B]? = some (.cells #[.int .i64 inp, vn, vg, vo] 31 (0, 0)) ∧ OutC (w2.setCell ⟨B, 3, none⟩ vo') base B inp xn xg xo' vn vg vo' := by
  have hB : w2.heap[B]? = some (.cells #[.int .i64 inp, vn, vg, vo] 31 (0, 0)) := by
    rw [hg.block B (blk_lt h.blk) (fun e => own_tyb h.o h.blk (by decide) e.symm)]; exact h.blk
  have hc := Chg.of_grown hg
  have lt : ∀ k, vn.ownBlock = some k → k < w.heap.size := fun k hk => (own_blk h.n hk).2
  refine ⟨hB, by simpa using blk_set (o := 3) (v := vo') hB, own_set_ne (hc.own h.n (fun k hk hs => h.ne k hk hs)) (own_tyb h.n h.blk (by decide)) _, own_set_ne (hc.own h.g (fun k hk hs => own_ty h.o h.g (by decide) hs hk)) (own_tyb h.g h.blk (by decide)) _, own_set_ne ho (own_tyb ho hB (by decide)) _, fun k hk hk2 => ?_⟩
  rcases hb with e | e
  · rw [e] at hk2; exact h.ne k hk hk2
  · rw [e] at hk2; cases hk2; have := lt _ hk; omega
theorem OutC.pushG {w w2 : World} {base B : Nat} {inp : Int} {xn : List Int} {xg xg' : List Gt} {xo : List Int} {vn vg vg' vo : Value} (h : OutC w base B inp xn xg xo vn vg vo)
    (hg : w.grownBy w2 vg.ownBlock) (ho : w2.ownsRow base 52 2 vg' xg'.length (gcells xg')) : w2.heap[B]? = some (.cells #[.int .i64 inp, vn, vg, vo] 31 (0, 0)) ∧ OutC (w2.setCell ⟨B, 2, none⟩ vg') base B inp xn xg' xo vn vg' vo := by
  have hB : w2.heap[B]? = some (.cells #[.int .i64 inp, vn, vg, vo] 31 (0, 0)) := by
    rw [hg.block B (blk_lt h.blk) (fun e => own_tyb h.g h.blk (by decide) e.symm)]; exact h.blk
  have hc := Chg.of_grown hg
  exact ⟨hB, by simpa using blk_set (o := 2) (v := vg') hB, own_set_ne (hc.own h.n (fun k hk hs => own_ty h.n h.g (by decide) hk hs)) (own_tyb h.n h.blk (by decide)) _, own_set_ne ho (own_tyb ho hB (by decide)) _, own_set_ne (hc.own h.o (fun k hk hs => own_ty h.o h.g (by decide) hk hs)) (own_tyb h.o h.blk (by decide)) _, h.ne⟩

def mapG (f : Int → Int) (gs : List Gt) : List Gt := gs.map fun g => ⟨f g.a, f g.b⟩
def Cir.mapC (f : Int → Int) (c : Cir) : Cir := ⟨c.inp, c.next.map f, mapG f c.gates, c.outs.map f⟩
theorem mapG_snoc {f : Int → Int} {gs : List Gt} {k : Nat} {g : Gt} (h : gs[k]? = some g) : mapG f (gs.take (k + 1)) = mapG f (gs.take k) ++ [⟨f g.a, f g.b⟩] := by
  rw [List.take_add_one, h]; simp [mapG]
theorem map_snoc {f : Int → Int} {xs : List Int} {k : Nat} {x : Int} (h : xs[k]? = some x) : (xs.take (k + 1)).map f = (xs.take k).map f ++ [f x] := by
  rw [List.take_add_one, h]; simp

theorem own_sets4 {w : World} {base r : Nat} {e : TypeId} {size : Nat} {v : Value} {n : Nat} {xs : List Value} (h : w.ownsRow (base + 1) e size v n xs) (hne : v.ownBlock ≠ some r) {a b c d : Value} : ((((w.setCell ⟨r, 0, none⟩ a).setCell ⟨r, 1, none⟩ b).setCell ⟨r, 2, none⟩ c).setCell ⟨r, 3, none⟩ d).ownsRow base e size v n xs :=
  own_set_ne (own_set_ne (own_set_ne (own_set_ne (own_base h (Nat.le_succ _)) hne _) hne _) hne _) hne _

end Go.Proofs.YtnifgamlmaembaaDoor
