import Derived.Test.YtjggcojbgkpooaaOC
import Derived.Test.YtjggcojbgkpooaaD3
namespace Go.Proofs.Ytjggcojbgkpooaa
set_option linter.unusedVariables false
set_option linter.unusedSimpArgs false
open Go.RowKit

/-! A circuit under reconstruction: its block, its slices, the map of variables. -/

theorem belowA (w : World) (o : Obj) : Below w.heap.size w (w.alloc o) := (Below.refl _ _).alloc (Nat.le_refl _) _
structure BS (Wb : World) (B nb b2 : Nat) (inp : Int) (xn : List Int) (vn : Value) (gs : List Gt) (vg : Value) (m : List Int) (vm : Value) (w : World) : Prop where
  blk : w.heap[B]? = some (.cells #[.int .i64 inp, vn, vg, .slice none 0 0] 26 (0, 0))
  n : w.ownsRow nb 3 1 vn xn.length (ints xn)
  g : w.ownsRow b2 56 2 vg gs.length (gcells gs)
  m : w.ownsRow b2 3 1 vm m.length (ints m)
  kp : Kp B b2 Wb w
  hB : B < b2
  hn : ∀ k, vn.ownBlock = some k → k < b2
  hs : b2 ≤ w.heap.size
theorem BS.below {Wb : World} {B nb b2 : Nat} {inp : Int} {xn : List Int} {vn : Value} {gs : List Gt} {vg : Value} {m : List Int} {vm : Value} {w w' : World} (h : BS Wb B nb b2 inp xn vn gs vg m vm w) (hb : Below w.heap.size w w') : BS Wb B nb b2 inp xn vn gs vg m vm w' :=
  ⟨blk_below hb (blk_lt h.blk) h.blk, own_below h.n hb, own_below h.g hb, own_below h.m hb, h.kp.trans (Kp.of_below (hb.mono h.hs)), h.hB, h.hn, Nat.le_trans h.hs hb.size⟩
theorem BS.cells {Wb : World} {B nb b2 : Nat} {inp : Int} {xn : List Int} {vn : Value} {gs : List Gt} {vg : Value} {m : List Int} {vm : Value} {w : World} (h : BS Wb B nb b2 inp xn vn gs vg m vm w) : (∀ o, w.cell? ⟨B, o, none⟩ = #[.int .i64 inp, vn, vg, .slice none 0 0][o]?) ∧ ∀ o, w.frozen? ⟨B, o, none⟩ = false := blk_all h.blk
theorem BS.pushM {Wb : World} {B nb b2 : Nat} {inp : Int} {xn : List Int} {vn : Value} {gs : List Gt} {vg : Value} {m m' : List Int} {vm vm' : Value} {w w2 : World} (h : BS Wb B nb b2 inp xn vn gs vg m vm w)
    (ho : w2.ownsRow b2 3 1 vm' m'.length (ints m')) (hb : Below b2 w w2) (hg : w.grownBy w2 vm.ownBlock) : BS Wb B nb b2 inp xn vn gs vg m' vm' w2 :=
  ⟨blk_below hb h.hB h.blk, own_mono h.n h.hn hb, (Chg.of_grown hg).own h.g (fun k hk hs => own_ty h.m h.g (by decide) hs hk), ho, h.kp.trans (Kp.of_below hb), h.hB, h.hn, Nat.le_trans h.hs hb.size⟩
theorem BS.setAll {Wb : World} {B nb b2 : Nat} {inp : Int} {xn : List Int} {vn : Value} {gs gs' : List Gt} {vg vg' : Value} {m : List Int} {vm : Value} {w : World} (h : BS Wb B nb b2 inp xn vn gs vg m vm w)
    (hg : w.ownsRow b2 56 2 vg' gs'.length (gcells gs')) : BS Wb B nb b2 inp xn vn gs' vg' m vm ((((w.setCell ⟨B, 0, none⟩ (.int .i64 inp)).setCell ⟨B, 1, none⟩ vn).setCell ⟨B, 2, none⟩ vg').setCell ⟨B, 3, none⟩ (.slice none 0 0)) := by
  have e1 := own_tyb h.n h.blk (by decide)
  have e2 := own_tyb hg h.blk (by decide)
  have e3 := own_tyb h.m h.blk (by decide)
  refine ⟨by simpa using blk_set (o := 3) (v := .slice none 0 0) (blk_set (o := 2) (v := vg') (blk_set (o := 1) (v := vn) (blk_set (o := 0) (v := .int .i64 inp) h.blk))), own_set_ne (own_set_ne (own_set_ne (own_set_ne h.n e1 _) e1 _) e1 _) e1 _, own_set_ne (own_set_ne (own_set_ne (own_set_ne hg e2 _) e2 _) e2 _) e2 _, own_set_ne (own_set_ne (own_set_ne (own_set_ne h.m e3 _) e3 _) e3 _) e3 _, h.kp.trans (Kp.of_upd ((((Upd.set B 0 w _).trans (Upd.set B 1 _ _)).trans (Upd.set B 2 _ _)).trans (Upd.set B 3 _ _)) h.hs), h.hB, h.hn, by simpa using h.hs⟩
theorem BS.pushG {Wb : World} {B nb b2 : Nat} {inp : Int} {xn : List Int} {vn : Value} {gs gs' : List Gt} {vg vg' : Value} {m : List Int} {vm : Value} {w w2 : World} (h : BS Wb B nb b2 inp xn vn gs vg m vm w)
    (ho : w2.ownsRow b2 56 2 vg' gs'.length (gcells gs')) (hb : Below b2 w w2) (hg : w.grownBy w2 vg.ownBlock) : w2.heap[B]? = some (.cells #[.int .i64 inp, vn, vg, .slice none 0 0] 26 (0, 0)) ∧ BS Wb B nb b2 inp xn vn gs' vg' m vm (w2.setCell ⟨B, 2, none⟩ vg') := by
  have hk := blk_below hb h.hB h.blk
  have hn := own_mono h.n h.hn hb
  have hm := (Chg.of_grown hg).own h.m (fun k hk hs => own_ty h.m h.g (by decide) hk hs)
  exact ⟨hk, by simpa using blk_set (o := 2) (v := vg') hk, own_set_ne hn (own_tyb hn hk (by decide)) _, own_set_ne ho (own_tyb ho hk (by decide)) _, own_set_ne hm (own_tyb hm hk (by decide)) _, h.kp.trans ((Kp.of_below hb).trans (Kp.of_upd (Upd.set B 2 _ _) (Nat.le_trans h.hs hb.size))), h.hB, h.hn, by simpa using Nat.le_trans h.hs hb.size⟩

/-- The same, its outputs under way: the map stays, next is overwritten, outs grows. -/
structure NS (W0 : World) (B nb : Nat) (inp : Int) (xn : List Int) (vn : Value) (gs : List Gt) (vg : Value) (xo : List Int) (vo : Value) (m : List Int) (vm : Value) (w : World) : Prop where
  out : OutC w nb B inp xn gs xo vn vg vo
  m : w.ownsRow nb 3 1 vm m.length (ints m)
  nm : ∀ k, vm.ownBlock = some k → vn.ownBlock ≠ some k
  om : ∀ k, vm.ownBlock = some k → vo.ownBlock ≠ some k
  bel : Below nb W0 w
  hB : nb ≤ B
  hs : nb ≤ w.heap.size
theorem NS.below {W0 : World} {B nb : Nat} {inp : Int} {xn : List Int} {vn : Value} {gs : List Gt} {vg : Value} {xo : List Int} {vo : Value} {m : List Int} {vm : Value} {w w' : World} (h : NS W0 B nb inp xn vn gs vg xo vo m vm w) (hb : Below w.heap.size w w') : NS W0 B nb inp xn vn gs vg xo vo m vm w' :=
  ⟨h.out.below hb, own_below h.m hb, h.nm, h.om, h.bel.trans (hb.mono h.hs), h.hB, Nat.le_trans h.hs hb.size⟩
theorem NS.setN {W0 : World} {B nb : Nat} {inp : Int} {xn : List Int} {g n cap : Nat} {gs : List Gt} {vg : Value} {xo : List Int} {vo : Value} {m : List Int} {vm : Value} {w : World} (hn : xn.length = n) (h : NS W0 B nb inp xn (.slice (some ⟨g, 0, none⟩) n cap) gs vg xo vo m vm w) {j : Nat} {y : Int} :
    NS W0 B nb inp (xn.set j y) (.slice (some ⟨g, 0, none⟩) n cap) gs vg xo vo m vm (w.setCell ⟨g, j, none⟩ (.int .i64 y)) := by
  subst hn
  have hgk : (Value.slice (some ⟨g, 0, none⟩) xn.length cap).ownBlock = some g := rfl
  have hgb := own_blk h.out.n hgk
  obtain ⟨h1, h2⟩ := h.out.n.stored j (.int .i64 y)
  have hc := Chg.of_grown h2
  have e : (ints xn).set j (.int .i64 y) = ints (xn.set j y) := by simp [ints, List.map_set]
  rw [e] at h1
  have hBg : g ≠ B := fun e => own_tyb h.out.n h.out.blk (by decide) (by rw [hgk, e])
  refine ⟨⟨by rw [h2.block B (blk_lt h.out.blk) (by simp [Value.ownBlock]; omega)]; exact h.out.blk, by simpa using h1, hc.own h.out.g (fun k hk hs => own_ty h.out.n h.out.g (by decide) (hs.symm ▸ hgk) hk), hc.own h.out.o (fun k hk hs => h.out.ne k (hs.symm ▸ hgk) hk), h.out.ne⟩, hc.own h.m (fun k hk hs => h.nm k hk (hs.symm ▸ hgk)), h.nm, h.om, h.bel.setCell (p := ⟨g, j, none⟩) hgb.1 _, h.hB, by simpa using h.hs⟩
theorem NS.pushO {W0 : World} {B nb : Nat} {inp : Int} {xn : List Int} {vn : Value} {gs : List Gt} {vg : Value} {xo xo' : List Int} {vo vo' : Value} {m : List Int} {vm : Value} {w w2 : World} (h : NS W0 B nb inp xn vn gs vg xo vo m vm w)
    (hg : w.grownBy w2 vo.ownBlock) (ho : w2.ownsRow nb 3 1 vo' xo'.length (ints xo')) (hob : vo'.ownBlock = vo.ownBlock ∨ vo'.ownBlock = some w.heap.size) (hb : Below nb w w2) :
    w2.heap[B]? = some (.cells #[.int .i64 inp, vn, vg, vo] 26 (0, 0)) ∧ NS W0 B nb inp xn vn gs vg xo' vo' m vm (w2.setCell ⟨B, 3, none⟩ vo') := by
  obtain ⟨hk, h1⟩ := h.out.pushO hg ho hob
  have hm := (Chg.of_grown hg).own h.m (fun k hk hs => h.om k hk hs)
  refine ⟨hk, h1, own_set_ne hm (own_tyb hm hk (by decide)) _, h.nm, fun k hk2 hk3 => ?_, (h.bel.trans hb).setCell (p := ⟨B, 3, none⟩) h.hB _, h.hB, by simpa using Nat.le_trans h.hs hb.size⟩
  rcases hob with e | e
  · rw [e] at hk3; exact h.om k hk2 hk3
  · rw [e] at hk3; cases hk3; have := (own_blk h.m hk2).2; omega

end Go.Proofs.Ytjggcojbgkpooaa
