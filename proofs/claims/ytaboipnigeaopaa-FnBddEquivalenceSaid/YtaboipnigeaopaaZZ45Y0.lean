import Derived.Test.YtaboipnigeaopaaZZ45L4
import Derived.Test.YtaboipnigeaopaaZZ45OA
import Derived.Test.YtaboipnigeaopaaZZ45V2
import Derived.Laws.OwnMore
import Derived.Deep.DeepCutAuto
import Derived.Deep.RegionWith
import Derived.Laws.BytesArg
import Derived.Deep.QuietTactic
import Derived.BigQuiet
import Derived.Deep.RegionHeld3
namespace Go.Proofs.Ytaboipnigeaopaa
set_option linter.unusedVariables false
set_option linter.unusedSimpArgs false
open Go.RowKit

/-! Part of the proof of one law. -/

def Cir.size (c : Cir) : Int := c.next.length + c.gates.length + c.outs.length

theorem CirAt.drewN {w : World} {b : Nat} {inp : Int} {vn vg vo : Value} (h : CirAt w b inp vn vg vo) (n : Nat) : CirAt (w.drewN n) b inp vn vg vo := ⟨h.h0, h.h1, h.h2, h.h3⟩

/-- Only blocks in S may have turned. -/
structure Chg (S : Nat → Prop) (w w' : World) : Prop where
  os : w'.os = w.os
  tape : w'.tape = w.tape
  output : w'.output = w.output
  size : w.heap.size ≤ w'.heap.size
  block : ∀ k, k < w.heap.size → ¬ S k → w'.heap[k]? = w.heap[k]?

theorem Chg.refl (S : Nat → Prop) (w : World) : Chg S w w := ⟨rfl, rfl, rfl, Nat.le_refl _, fun _ _ _ => rfl⟩

theorem Chg.trans {S : Nat → Prop} {a b c : World} (h : Chg S a b) (k : Chg S b c) : Chg S a c :=
  ⟨k.os.trans h.os, k.tape.trans h.tape, k.output.trans h.output, Nat.le_trans h.size k.size, fun i hi hn => (k.block i (by have := h.size; omega) hn).trans (h.block i hi hn)⟩

theorem Chg.mono {S T : Nat → Prop} {a b : World} (h : Chg S a b) (hs : ∀ k, S k → T k) : Chg T a b := ⟨h.os, h.tape, h.output, h.size, fun k hk hn => h.block k hk fun e => hn (hs k e)⟩

theorem Chg.of_grown {w w' : World} {row : Option Nat} (h : w.grownBy w' row) : Chg (fun k => row = some k) w w' := ⟨h.os, h.tape, h.output, h.size, fun k hk hn => h.block k hk fun e => hn e.symm⟩

theorem Chg.of_below {S : Nat → Prop} {w w' : World} (h : Below w.heap.size w w') : Chg S w w' := ⟨h.os, h.tape, h.output, h.size, fun k hk _ => h.block k hk⟩

theorem Chg.below {S : Nat → Prop} {w w' : World} (h : Chg S w w') {b : Nat} (hb : b ≤ w.heap.size) (hs : ∀ k, k < b → ¬ S k) : Below b w w' := ⟨h.os, h.tape, h.output, h.size, fun k hk => h.block k (by omega) (hs k hk)⟩

theorem Chg.own {S : Nat → Prop} {w w' : World} (h : Chg S w w') {base : Nat} {e : TypeId} {size : Nat} {v : Value} {n : Nat} {xs : List Value} (ho : w.ownsRow base e size v n xs) (hs : ∀ k, v.ownBlock = some k → ¬ S k) : w'.ownsRow base e size v n xs := by
  refine ⟨ho.1, ?_⟩
  rcases ho.2 with hn | ⟨g, cap, cur, rfl, hb', hg, rest⟩
  · exact .inl hn
  · exact .inr ⟨g, cap, cur, rfl, hb', by rw [h.block g (blk_lt hg) (hs g rfl)]; exact hg, rest⟩

theorem Chg.blk {S : Nat → Prop} {w w' : World} (h : Chg S w w') {b : Nat} {x : Obj} (hb : w.heap[b]? = some x) (hs : ¬ S b) : w'.heap[b]? = some x := by
  rw [h.block b (blk_lt hb) hs]; exact hb

theorem own_some {w : World} {base : Nat} {e : TypeId} {size n cap : Nat} {s : Option Addr} {xs : List Value} (h : w.ownsRow base e size (.slice s n cap) n xs) : (s = none ∧ n = 0 ∧ cap = 0) ∨ ∃ g, s = some ⟨g, 0, none⟩ := by
  rcases h.2 with ⟨e, _⟩ | ⟨g, cap', cur, e, _⟩
  · simp only [Value.slice.injEq] at e; exact .inl e
  · simp only [Value.slice.injEq] at e; exact .inr ⟨g, e.1⟩

/-- The copy of a circuit, block by block. -/
structure CirOwn (w : World) (base : Nat) (c : Cir) (vn vg vo : Value) : Prop where
  n : w.ownsRow base 3 1 vn c.next.length (ints c.next)
  g : w.ownsRow base 61 2 vg c.gates.length (gcells c.gates)
  o : w.ownsRow base 3 1 vo c.outs.length (ints c.outs)
  ne : ∀ k, vn.ownBlock = some k → vo.ownBlock ≠ some k
  l1 : c.next.length ≤ 1048576
  l2 : c.gates.length ≤ 1048576
  l3 : c.outs.length ≤ 1048576

theorem own_ty {w : World} {base base' : Nat} {e e' : TypeId} {size size' : Nat} {v v' : Value} {n n' : Nat} {xs xs' : List Value} (h : w.ownsRow base e size v n xs) (h' : w.ownsRow base' e' size' v' n' xs') (he : e ≠ e') {k : Nat} (hk : v.ownBlock = some k) : v'.ownBlock ≠ some k := by
  intro hk'
  rcases h.2 with ⟨rfl, _⟩ | ⟨g, cap, cur, rfl, _, hg, _⟩
  · cases hk
  · rcases h'.2 with ⟨rfl, _⟩ | ⟨g', cap', cur', rfl, _, hg', _⟩
    · cases hk'
    · simp only [Value.ownBlock, Option.some.injEq] at hk hk'
      subst hk; subst hk'
      rw [hg] at hg'
      simp only [Option.some.injEq, Obj.cells.injEq] at hg'
      exact he hg'.2.1

theorem valid_gate {c : Cir} (h : c.valid) {k : Nat} {g : Gt} (hg : c.gates[k]? = some g) : (0 ≤ g.a ∧ g.a / 2 < c.first + k) ∧ 0 ≤ g.b ∧ g.b / 2 < c.first + k := by
  have := gatesP_at h.gates hg
  unfold litP at this; omega

theorem valid_first {c : Cir} (h : c.valid) : 1 ≤ c.first ∧ c.first ≤ 8 ∧ c.vars = c.first + c.gates.length ∧ c.gates.length ≤ 14 := by
  have := h.lim
  unfold Cir.limits at this
  unfold Cir.first Cir.vars; omega

theorem own_tyb {w : World} {base : Nat} {e : TypeId} {size n : Nat} {v : Value} {xs : List Value} (h : w.ownsRow base e size v n xs) {b : Nat} {arr : Array Value} {t : TypeId} {fz : Nat × Nat} (hb : w.heap[b]? = some (.cells arr t fz)) (he : e ≠ t) : v.ownBlock ≠ some b := by
  intro hk
  rcases h.2 with ⟨rfl, _⟩ | ⟨g, cap, cur, rfl, _, hg, _⟩
  · cases hk
  · simp only [Value.ownBlock, Option.some.injEq] at hk
    subst hk
    rw [hg] at hb
    simp only [Option.some.injEq, Obj.cells.injEq] at hb
    exact he hb.2.1

def tsOk (c : Cir) (l : Int) : Prop := c.validB = true ∧ litP l c.vars

instance (c : Cir) (l : Int) : Decidable (tsOk c l) := inferInstanceAs (Decidable (_ ∧ _))

theorem elem_gate : ElemOf Try.prog 24 61 (.agg #[.int .i64 0, .int .i64 0]) 2 16 :=
  ⟨by kernel_rfl, info_parts (by kernel_rfl), rfl, by omega⟩

theorem gcells_append (xs ys : List Gt) : gcells xs ++ gcells ys = gcells (xs ++ ys) := by
  induction xs with
  | nil => rfl
  | cons x xs ih => show .int .i64 x.a :: .int .i64 x.b :: (gcells xs ++ gcells ys) = _; rw [ih]; rfl

structure OutC (w : World) (base B : Nat) (inp : Int) (xn : List Int) (xg : List Gt) (xo : List Int) (vn vg vo : Value) : Prop where
  blk : w.heap[B]? = some (.cells #[.int .i64 inp, vn, vg, vo] 26 (0, 0))
  n : w.ownsRow base 3 1 vn xn.length (ints xn)
  g : w.ownsRow base 61 2 vg xg.length (gcells xg)
  o : w.ownsRow base 3 1 vo xo.length (ints xo)
  ne : ∀ k, vn.ownBlock = some k → vo.ownBlock ≠ some k

theorem OutC.below {w w' : World} {base B : Nat} {inp : Int} {xn : List Int} {xg : List Gt} {xo : List Int} {vn vg vo : Value} (h : OutC w base B inp xn xg xo vn vg vo) (hb : Below w.heap.size w w') : OutC w' base B inp xn xg xo vn vg vo :=
  ⟨blk_below hb (blk_lt h.blk) h.blk, own_below h.n hb, own_below h.g hb, own_below h.o hb, h.ne⟩

theorem OutC.pushN {w w2 : World} {base B : Nat} {inp : Int} {xn xn' : List Int} {xg : List Gt} {xo : List Int} {vn vn' vg vo : Value} (h : OutC w base B inp xn xg xo vn vg vo)
    (hg : w.grownBy w2 vn.ownBlock) (ho : w2.ownsRow base 3 1 vn' xn'.length (ints xn')) (hb : vn'.ownBlock = vn.ownBlock ∨ vn'.ownBlock = some w.heap.size) : w2.heap[B]? = some (.cells #[.int .i64 inp, vn, vg, vo] 26 (0, 0)) ∧ OutC (w2.setCell ⟨B, 1, none⟩ vn') base B inp xn' xg xo vn' vg vo := by
  have hB : w2.heap[B]? = some (.cells #[.int .i64 inp, vn, vg, vo] 26 (0, 0)) := by
    rw [hg.block B (blk_lt h.blk) (fun e => own_tyb h.n h.blk (by decide) e.symm)]; exact h.blk
  have hc := Chg.of_grown hg
  have lt : ∀ k, vo.ownBlock = some k → k < w.heap.size := fun k hk => (own_blk h.o hk).2
  refine ⟨hB, by simpa using blk_set (o := 1) (v := vn') hB, own_set_ne ho (own_tyb ho hB (by decide)) _, own_set_ne (hc.own h.g (fun k hk hs => own_ty h.n h.g (by decide) hs hk)) (own_tyb h.g h.blk (by decide)) _, own_set_ne (hc.own h.o (fun k hk hs => h.ne k hs hk)) (own_tyb h.o h.blk (by decide)) _, fun k hk => ?_⟩
  rcases hb with e | e
  · rw [e] at hk; exact h.ne k hk
  · rw [e] at hk; cases hk; intro hk2; have := lt _ hk2; omega

theorem OutC.pushO {w w2 : World} {base B : Nat} {inp : Int} {xn : List Int} {xg : List Gt} {xo xo' : List Int} {vn vg vo vo' : Value} (h : OutC w base B inp xn xg xo vn vg vo)
    (hg : w.grownBy w2 vo.ownBlock) (ho : w2.ownsRow base 3 1 vo' xo'.length (ints xo')) (hb : vo'.ownBlock = vo.ownBlock ∨ vo'.ownBlock = some w.heap.size) : w2.heap[B]? = some (.cells #[.int .i64 inp, vn, vg, vo] 26 (0, 0)) ∧ OutC (w2.setCell ⟨B, 3, none⟩ vo') base B inp xn xg xo' vn vg vo' := by
  have hB : w2.heap[B]? = some (.cells #[.int .i64 inp, vn, vg, vo] 26 (0, 0)) := by
    rw [hg.block B (blk_lt h.blk) (fun e => own_tyb h.o h.blk (by decide) e.symm)]; exact h.blk
  have hc := Chg.of_grown hg
  have lt : ∀ k, vn.ownBlock = some k → k < w.heap.size := fun k hk => (own_blk h.n hk).2
  refine ⟨hB, by simpa using blk_set (o := 3) (v := vo') hB, own_set_ne (hc.own h.n (fun k hk hs => h.ne k hk hs)) (own_tyb h.n h.blk (by decide)) _, own_set_ne (hc.own h.g (fun k hk hs => own_ty h.o h.g (by decide) hs hk)) (own_tyb h.g h.blk (by decide)) _, own_set_ne ho (own_tyb ho hB (by decide)) _, fun k hk hk2 => ?_⟩
  rcases hb with e | e
  · rw [e] at hk2; exact h.ne k hk hk2
  · rw [e] at hk2; cases hk2; have := lt _ hk; omega

theorem OutC.pushG {w w2 : World} {base B : Nat} {inp : Int} {xn : List Int} {xg xg' : List Gt} {xo : List Int} {vn vg vg' vo : Value} (h : OutC w base B inp xn xg xo vn vg vo)
    (hg : w.grownBy w2 vg.ownBlock) (ho : w2.ownsRow base 61 2 vg' xg'.length (gcells xg')) : w2.heap[B]? = some (.cells #[.int .i64 inp, vn, vg, vo] 26 (0, 0)) ∧ OutC (w2.setCell ⟨B, 2, none⟩ vg') base B inp xn xg' xo vn vg' vo := by
  have hB : w2.heap[B]? = some (.cells #[.int .i64 inp, vn, vg, vo] 26 (0, 0)) := by
    rw [hg.block B (blk_lt h.blk) (fun e => own_tyb h.g h.blk (by decide) e.symm)]; exact h.blk
  have hc := Chg.of_grown hg
  exact ⟨hB, by simpa using blk_set (o := 2) (v := vg') hB, own_set_ne (hc.own h.n (fun k hk hs => own_ty h.n h.g (by decide) hk hs)) (own_tyb h.n h.blk (by decide)) _, own_set_ne ho (own_tyb ho hB (by decide)) _, own_set_ne (hc.own h.o (fun k hk hs => own_ty h.o h.g (by decide) hk hs)) (own_tyb h.o h.blk (by decide)) _, h.ne⟩

theorem own_sets4' {w : World} {base base' r : Nat} {e : TypeId} {size : Nat} {v : Value} {n : Nat} {xs : List Value} (h : w.ownsRow base' e size v n xs) (hr : r < base') (hb : base ≤ base') {a b c d : Value} : ((((w.setCell ⟨r, 0, none⟩ a).setCell ⟨r, 1, none⟩ b).setCell ⟨r, 2, none⟩ c).setCell ⟨r, 3, none⟩ d).ownsRow base e size v n xs :=
  have hne : v.ownBlock ≠ some r := fun he => by have := (own_blk h he).1; omega
  own_set_ne (own_set_ne (own_set_ne (own_set_ne (own_base h hb) hne _) hne _) hne _) hne _

theorem CirOwn.sets4 {w : World} {base base' r : Nat} {c : Cir} {vn vg vo : Value} (h : CirOwn w base' c vn vg vo) (hr : r < base') (hb : base ≤ base') {a b' c' d : Value} : CirOwn ((((w.setCell ⟨r, 0, none⟩ a).setCell ⟨r, 1, none⟩ b').setCell ⟨r, 2, none⟩ c').setCell ⟨r, 3, none⟩ d) base c vn vg vo :=
  ⟨own_sets4' h.n hr hb, own_sets4' h.g hr hb, own_sets4' h.o hr hb, h.ne, h.l1, h.l2, h.l3⟩

theorem own_cv {w : World} {base : Nat} {r : Cir} {vn vg vo : Value} (h : CirOwn w base r vn vg vo) : CirV w (.agg #[.int .i64 r.inp, vn, vg, vo]) r := by
  obtain ⟨sn, cn, rfl⟩ := own_shape h.n
  obtain ⟨sg, cg, rfl⟩ := own_shape h.g
  obtain ⟨so, co, rfl⟩ := own_shape h.o
  exact ⟨_, _, _, _, _, _, rfl, own_sl h.n, own_sl h.g, own_sl h.o, h.l1, h.l2, h.l3⟩

theorem own_cbelow {w w' : World} {base : Nat} {r : Cir} {vn vg vo : Value} (h : CirOwn w base r vn vg vo) (hb : Below w.heap.size w w') : CirOwn w' base r vn vg vo :=
  ⟨own_below h.n hb, own_below h.g hb, own_below h.o hb, h.ne, h.l1, h.l2, h.l3⟩

theorem below_al (w : World) (o : Obj) : Below w.heap.size w (w.alloc o) := (Below.refl _ _).alloc (Nat.le_refl _) _

def xr (y b : Int) : Int := 2 * (y / 2) + (y + b) % 2

theorem l2Lit_any (s : Option Addr) (vs : List Bool) (cap : Nat) (l : Int) (w : World) (h : Sl w s (bools vs)) (h0 : 0 ≤ l) (h1 : l ≤ 1000000) (h2 : l / 2 < vs.length) :
    Calls Try.prog 92 #[.slice s vs.length cap, .int .i64 l] w fun e w' => e = .returned (.bool (litB vs l)) ∧ w = w' := by
  obtain ⟨p, hp⟩ : ∃ p : Nat, l / 2 = p := ⟨(l / 2).toNat, by omega⟩
  have p2 : p < vs.length := by omega
  obtain ⟨x, hx⟩ := get_of_lt p2
  obtain ⟨b, off, rfl, hbw, hz⟩ := h.bool (Below.refl _ _) hx
  rw [litB_eq hp hx]
  have H := Lib.hid (And.intro h hx)
  clear h hx h2
  go_enter Try.func92, Try.ntmps92
  go_wp2
  go_ret
  exact ⟨rfl, rfl⟩

set_option maxHeartbeats 400000 in
theorem l4Bits_any (x : Int) (n : Nat) (w : World) (h0 : 0 ≤ x) (h1 : x ≤ 1000000) (hn : n ≤ 20) :
    Calls Try.prog 74 #[.int .i64 x, .int .i64 n] w fun e w' => ∃ s c, e = .returned (.slice s n c) ∧ Sl w' s (bools (bitsV x n)) ∧ Below w.heap.size w w' := by
  have hA : Below w.heap.size w (w.alloc (.cells #[] 4)) := (Below.refl _ _).alloc (Nat.le_refl _) _
  have ho : (w.alloc (.cells #[] 4)).ownsRow w.heap.size 4 1 (.slice (some ⟨w.heap.size, 0, none⟩) 0 0) 0 [] := own_of_blk (n := 0) (cur := #[]) (blk_new w _) (Nat.le_refl _) (by simp) (by unfold maxLen; omega)
  have HO := Lib.hid (And.intro ho hA)
  clear ho hA
  go_enter Try.func74, Try.ntmps74
  go_wp2
  revert HO
  generalize w.alloc (.cells #[] 4) = WA
  intro HO
  go_loopw [6, 5] (fun i v wr => ∃ (k : Nat) (s : Option Addr) (c : Nat), k ≤ n ∧ i = .int .i64 k ∧ v = .slice s k c ∧ wr.ownsRow w.heap.size 4 1 v k (bools (bitsV x k)) ∧ Below w.heap.size w wr) (fun i _ _ => n - (intOf i).toNat)
  case atStart => exact ⟨0, _, _, Nat.zero_le _, rfl, rfl, HO.out.1, HO.out.2⟩
  case round =>
    obtain ⟨k, so, c, hk, rfl, rfl, ho, hbl⟩ := hrel
    by_cases hlt : k < n
    · have hpw : (1 : Int) ≤ 2 ^ k := by have : (0 : Int) < 2 ^ k := Int.pow_pos (by decide); omega
      have q1 : 0 ≤ x / 2 ^ k := Int.ediv_nonneg h0 (by omega)
      have q2 : x / 2 ^ k ≤ 1000000 := Int.le_trans (Int.ediv_le_self _ h0) h1
      have hbs := hbl.size
      have HR := Lib.hid (And.intro ho (And.intro hbl hpw))
      clear ho hbl hpw
      go_wp2_with (at_builtin; refine wpl_app rfl _ _ rfl elem_bool (own_below HR.out.1 ((Below.refl _ _).alloc (Nat.le_refl _) _)) rfl rfl rfl (Sl.new _ _ _) (by simp [Value.oneCell']) (k + 1) rfl _ rfl (by unfold maxLen; omega) (by omega) (by simp; omega) ?_; intro s3 c3 w3 h3 hb3 _ _; have HA := Lib.hid (And.intro h3 hb3); clear h3 hb3)
      go_roundw
      case rel =>
        refine ⟨k + 1, s3, c3, by omega, by go_num, rfl, ?_, (HR.out.2.1.alloc hbs _).trans HA.out.2⟩
        have e := HA.out.1
        rw [bitsV_snoc]
        unfold bools at *
        rw [List.map_append]
        exact e
      case measure => simp [intOf]; omega
    · obtain rfl : k = n := by omega
      have HR := Lib.hid (And.intro ho hbl)
      clear ho hbl
      go_wp2
      go_ret
      exact ⟨_, _, rfl, own_sl HR.out.1, HR.out.2⟩

set_option maxHeartbeats 400000 in
theorem l2Lits_any (s t : Option Addr) (vs : List Bool) (cap capl : Nat) (xs : List Int) (w : World) (h : Sl w s (bools vs)) (ht : Sl w t (ints xs)) (hx : ∀ x ∈ xs, 0 ≤ x ∧ x ≤ 1000000 ∧ x / 2 < vs.length) (hl : xs.length ≤ 1000) :
    Calls Try.prog 89 #[.slice s vs.length cap, .slice t xs.length capl] w fun e w' => ∃ s c, e = .returned (.slice s xs.length c) ∧ Sl w' s (bools (xs.map (litB vs))) ∧ Below w.heap.size w w' := by
  have H := Lib.hid (And.intro h (And.intro ht hx))
  clear h ht hx
  have hA : Below w.heap.size w (w.alloc (.cells #[] 4)) := (Below.refl _ _).alloc (Nat.le_refl _) _
  have ho : (w.alloc (.cells #[] 4)).ownsRow w.heap.size 4 1 (.slice (some ⟨w.heap.size, 0, none⟩) 0 0) 0 [] := own_of_blk (n := 0) (cur := #[]) (blk_new w _) (Nat.le_refl _) (by simp) (by unfold maxLen; omega)
  have HO := Lib.hid (And.intro ho hA)
  clear ho hA
  go_enter Try.func89, Try.ntmps89
  go_wp2
  revert HO
  generalize w.alloc (.cells #[] 4) = WA
  intro HO
  go_loopw [6, 5] (fun i v wr => ∃ (k : Nat) (s : Option Addr) (c : Nat), k ≤ xs.length ∧ i = .int .i64 k ∧ v = .slice s k c ∧ wr.ownsRow w.heap.size 4 1 v k (bools ((xs.take k).map (litB vs))) ∧ Below w.heap.size w wr) (fun i _ _ => xs.length - (intOf i).toNat)
  case atStart => exact ⟨0, _, _, Nat.zero_le _, rfl, rfl, by simpa [bools] using HO.out.1, HO.out.2⟩
  case round =>
    obtain ⟨k, so, c, hk, rfl, rfl, ho, hbl⟩ := hrel
    by_cases hlt : k < xs.length
    · obtain ⟨x, hx⟩ := get_of_lt hlt
      obtain ⟨b, off, rfl, hbw, hz⟩ := H.out.2.1.int hbl hx
      obtain ⟨x0, x1, x2⟩ := H.out.2.2 x (List.mem_of_getElem? hx)
      have hbs := hbl.size
      have HR := Lib.hid (And.intro ho (And.intro hbl hx))
      clear ho hbl hx
      go_wp2_with (first
        | (go_at_call 92; ((refine (l2Lit_any _ _ _ _ _ (H.out.1.mono HR.out.2.1) x0 x1 x2).mono ?_); rintro e w' ⟨rfl, rfl⟩))
        | (at_builtin; refine wpl_app rfl _ _ rfl elem_bool (own_below HR.out.1 ((Below.refl _ _).alloc (Nat.le_refl _) _)) rfl rfl rfl (Sl.new _ _ _) (by simp [Value.oneCell']) (k + 1) rfl _ rfl (by unfold maxLen; omega) (by omega) (by simp; omega) ?_; intro s3 c3 w3 h3 hb3 _ _; have HA := Lib.hid (And.intro h3 hb3); clear h3 hb3))
      obtain ⟨ho, hbl, hx⟩ := HR.out
      go_roundw
      case rel =>
        refine ⟨k + 1, s3, c3, by omega, by go_num, rfl, ?_, (hbl.alloc hbs _).trans HA.out.2⟩
        have := HA.out.1
        rw [List.take_add_one, hx]
        simpa [bools] using this
      case measure => simp [intOf]; omega
    · obtain rfl : k = xs.length := by omega
      rw [List.take_length] at ho
      have HR := Lib.hid (And.intro ho hbl)
      clear ho hbl
      go_wp2
      go_ret
      exact ⟨_, _, rfl, own_sl HR.out.1, HR.out.2⟩

set_option maxRecDepth 100000 in
set_option maxHeartbeats 800000 in
theorem l2Values_any (v : Value) (c : Cir) (ss si : Option Addr) (cs ci : Nat) (S I : List Bool) (w : World) (h : CirV w v c) (hv : c.valid) (hS : Sl w ss (bools S)) (hI : Sl w si (bools I))
    (lS : S.length = c.next.length) (ni : Nat) (lI : I.length = ni) (li : c.inp = ni) :
    Calls Try.prog 88 #[v, .slice ss c.next.length cs, .slice si ni ci] w fun e w' => ∃ s n cc, e = .returned (.slice s n cc) ∧ n = (valsV (-1) false (false :: (I ++ S)) c.gates).length ∧
      Sl w' s (bools (valsV (-1) false (false :: (I ++ S)) c.gates)) ∧ Below w.heap.size w w' := by
  obtain ⟨sn, cn, sg, cg, so, co, rfl, h1, h2, h3, hl1, hl2, hl3⟩ := h
  obtain ⟨f1, f2, f3, f4⟩ := valid_first hv
  obtain ⟨q1, q2, q3, q4, q5⟩ := id hv.lim
  have eF : c.first = 1 + c.inp + c.next.length := rfl
  have n4 : ni ≤ 4 := by omega
  obtain ⟨F, hF⟩ : ∃ F, F = 1 + ni + c.next.length := ⟨_, rfl⟩
  have eF2 : c.first = (F : Int) := by omega
  have f8 : F ≤ 8 := by omega
  have lB : (false :: (I ++ S)).length = F := by simp; omega
  have lF : 1 + ni + c.next.length ≤ F := by omega
  have H := Lib.hid (And.intro h2 (And.intro hv (And.intro hS (And.intro hI (And.intro lS (And.intro lI (And.intro eF2 (And.intro hF lB))))))))
  have hL : Below w.heap.size w (w.alloc (.cells #[.int .i64 c.inp, .slice sn c.next.length cn, .slice sg c.gates.length cg, .slice so c.outs.length co] 26)) := by go_grown
  have hN := blk_new w (.cells #[.int .i64 c.inp, .slice sn c.next.length cn, .slice sg c.gates.length cg, .slice so c.outs.length co] 26)
  have HL := Lib.hid (And.intro hL hN)
  have hb1 := hL.alloc hL.size (.cells #[.bool false] 4)
  have ho1 : ((w.alloc (.cells #[.int .i64 c.inp, .slice sn c.next.length cn, .slice sg c.gates.length cg, .slice so c.outs.length co] 26)).alloc (.cells #[.bool false] 4)).ownsRow (w.heap.size + 1) 4 1 (.slice (some ⟨w.heap.size + 1, 0, none⟩) 1 1) 1 (bools [false]) :=
    own_of_blk (n := 1) (cur := #[.bool false]) (blk_at (by simp)) (Nat.le_refl _) (by simp) (by unfold maxLen; omega)
  have hn1 := blk_old (o := .cells #[.bool false] 4) hN
  have hz1 : ((w.alloc (.cells #[.int .i64 c.inp, .slice sn c.next.length cn, .slice sg c.gates.length cg, .slice so c.outs.length co] 26)).alloc (.cells #[.bool false] 4)).heap.size = w.heap.size + 2 := by simp
  have H1 := Lib.hid (And.intro hb1 (And.intro ho1 (And.intro hn1 hz1)))
  clear h1 h2 h3 hv hS hI lS lI li f1 f2 f3 f4 q1 q2 q5 eF hF eF2 lB hL hN hb1 ho1 hn1 hz1
  go_enter Try.func88, Try.ntmps88
  go_wp2_with (first
    | (at_builtin; refine wpl_app rfl (.tmp 9) (.tmp 10) rfl elem_bool H1.out.2.1 rfl rfl (by simp [H.out.2.2.2.2.2.1]) (H.out.2.2.2.1.mono H1.out.1) (bools_one _) (1 + ni) rfl (bools ([false] ++ I)) (by rw [bools_append]) (by unfold maxLen; omega) (by omega) (by have := H1.out.2.2.2; omega) ?_; intro s3 c3 w3 h3 hb3 _ _; have HA := Lib.hid (And.intro h3 hb3); clear h3 hb3)
    | (at_builtin; refine wpl_app rfl (.tmp 12) (.tmp 13) rfl elem_bool HA.out.1 rfl rfl (by simp [H.out.2.2.2.2.1]) (H.out.2.2.1.mono (H1.out.1.trans (HA.out.2.mono (Nat.le_succ _)))) (bools_one _) (1 + ni + c.next.length) rfl (bools ([false] ++ I ++ S)) (by rw [bools_append]) (by unfold maxLen; omega) (by omega) (by have := H1.out.2.2.2; have := HA.out.2.size; omega) ?_; intro s4 c4 w4 h4 hb4 _ _; have HB := Lib.hid (And.intro h4 hb4); clear h4 hb4))
  have hb := HA.out.2.trans HB.out.2
  have ho := HB.out.1
  clear HA HB
  revert H1 hb
  generalize ((w.alloc (.cells #[.int .i64 c.inp, .slice sn c.next.length cn, .slice sg c.gates.length cg, .slice so c.outs.length co] 26)).alloc (.cells #[.bool false] 4)) = W1
  intro H1 hb
  obtain ⟨B0, hB0⟩ : ∃ B0, B0 = false :: (I ++ S) := ⟨_, rfl⟩
  have e1 : [false] ++ I ++ S = B0 := by rw [hB0]; simp
  rw [e1, ← H.out.2.2.2.2.2.2.2.1] at ho
  have eN : 1 + ni + c.next.length = F := H.out.2.2.2.2.2.2.2.1.symm
  rw [eN]
  have lB : B0.length = F := by rw [hB0]; exact H.out.2.2.2.2.2.2.2.2
  have HX := Lib.hid (And.intro hb (And.intro ho (And.intro hB0 lB)))
  clear hb ho hB0 lB e1 eN lF
  go_loopw [8, 7] (fun i v wr => ∃ (k : Nat) (s : Option Addr) (cc : Nat), k ≤ c.gates.length ∧ i = .int .i64 k ∧ v = .slice s (F + k) cc ∧ wr.ownsRow (w.heap.size + 1) 4 1 v (F + k) (bools (valsV (-1) false B0 (c.gates.take k))) ∧ Below (w.heap.size + 1) W1 wr) (fun i _ _ => c.gates.length - (intOf i).toNat)
  case atStart => exact ⟨0, _, _, Nat.zero_le _, rfl, rfl, by simpa [valsV] using HX.out.2.1, HX.out.1⟩
  case round =>
    obtain ⟨k, s7, c7, hk, rfl, rfl, ho, hbl⟩ := hrel
    have hbw : Below w.heap.size w wr := H1.out.1.trans (hbl.mono (Nat.le_succ _))
    have hcb := (blk_all (blk_below hbl (Nat.lt_succ_self _) H1.out.2.2.1)).1
    have hsz : w.heap.size + 2 ≤ wr.heap.size := by have h1 := hbl.size; have h2 := H1.out.2.2.2; omega
    by_cases hlt : k < c.gates.length
    · obtain ⟨g, hg⟩ := get_of_lt hlt
      obtain ⟨gb, off, rfl, hbw2, z1, z2⟩ := H.out.1.gate hbw hg
      obtain ⟨⟨a1, a2⟩, b1, b2⟩ := valid_gate H.out.2.1 hg
      have hfF := H.out.2.2.2.2.2.2.1
      have a3 : g.a / 2 < F + k := by omega
      have b3 : g.b / 2 < F + k := by omega
      have a4 : g.a ≤ 1000000 := by omega
      have b4 : g.b ≤ 1000000 := by omega
      obtain ⟨P, hP⟩ : ∃ P, P = valsV (-1) false B0 (c.gates.take k) := ⟨_, rfl⟩
      have lP : P.length = F + k := by rw [hP, valsV_length, HX.out.2.2.2, List.length_take]; omega
      rw [← hP] at ho
      have hsn : valsV (-1) false B0 (c.gates.take (k + 1)) = P ++ [litB P g.a && litB P g.b] := by
        rw [valsV_snoc hg, ← hP]
        unfold stepV
        rw [if_neg (by omega)]
      have hlv : ∀ l : Int, 0 ≤ l → l ≤ 1000000 → l / 2 < F + k → Calls Try.prog 92 #[.slice s7 (F + k) c7, .int .i64 l] wr fun e w' => e = .returned (.bool (litB P l)) ∧ wr = w' := fun l h0 h1 h2 => by
        have := l2Lit_any s7 P c7 l wr (own_sl ho) h0 h1 (by rw [lP]; omega)
        rw [lP] at this
        exact this
      have HQ := Lib.hid (And.intro hlv (And.intro hsn (And.intro ho (And.intro hbl hP))))
      clear hlv hsn ho hbl hP lP hg hfF a2 b2 hbw hbw2
      obtain ⟨va, hva⟩ : ∃ va, va = litB P g.a := ⟨_, rfl⟩
      obtain ⟨vb, hvb⟩ : ∃ vb, vb = litB P g.b := ⟨_, rfl⟩
      have HV := Lib.hid (And.intro hva hvb)
      clear hva hvb
      cases va
      · go_wp2_with (first
          | (go_at_call 92; ((with_reducible refine (HQ.out.1 _ a1 a4 a3).mono ?_); rintro e w3 ⟨rfl, rfl⟩; rw [← HV.out.1]))
          | (at_builtin; refine wpl_app rfl _ _ rfl elem_bool (own_below HQ.out.2.2.1 ((Below.refl _ _).alloc (Nat.le_refl _) _)) rfl rfl rfl (Sl.new _ _ _) (by simp [Value.oneCell']) (F + k + 1) rfl _ rfl (by unfold maxLen; omega) (by omega) (by simp; omega) ?_; intro s3 c3 w3 h3 hb3 _ _; have HA := Lib.hid (And.intro h3 hb3); clear h3 hb3))
        go_roundw
        case rel =>
          refine ⟨k + 1, s3, c3, by omega, by go_num, rfl, ?_, (HQ.out.2.2.2.1.alloc (by omega) _).trans HA.out.2⟩
          have e := HA.out.1
          rw [HQ.out.2.1, ← HV.out.1]
          unfold bools at *
          rw [List.map_append]
          exact e
        case measure => simp [intOf]; omega
      · go_wp2_with (first
          | (go_at_call 92; ((with_reducible refine (HQ.out.1 _ a1 a4 a3).mono ?_); rintro e w3 ⟨rfl, rfl⟩; rw [← HV.out.1]))
          | (go_at_call 92; ((with_reducible refine (HQ.out.1 _ b1 b4 b3).mono ?_); rintro e w3 ⟨rfl, rfl⟩; rw [← HV.out.2]))
          | (at_builtin; refine wpl_app rfl _ _ rfl elem_bool (own_below HQ.out.2.2.1 ((Below.refl _ _).alloc (Nat.le_refl _) _)) rfl rfl rfl (Sl.new _ _ _) (by simp [Value.oneCell']) (F + k + 1) rfl _ rfl (by unfold maxLen; omega) (by omega) (by simp; omega) ?_; intro s3 c3 w3 h3 hb3 _ _; have HA := Lib.hid (And.intro h3 hb3); clear h3 hb3))
        go_roundw
        case rel =>
          refine ⟨k + 1, s3, c3, by omega, by go_num, rfl, ?_, (HQ.out.2.2.2.1.alloc (by omega) _).trans HA.out.2⟩
          have e := HA.out.1
          rw [HQ.out.2.1, ← HV.out.1, ← HV.out.2]
          unfold bools at *
          rw [List.map_append]
          exact e
        case measure => simp [intOf]; omega
    · obtain rfl : k = c.gates.length := by omega
      rw [List.take_length, HX.out.2.2.1] at ho
      have HR := Lib.hid (And.intro ho hbw)
      clear ho hbl hbw
      go_wp2
      go_ret
      exact ⟨_, _, _, rfl, by rw [valsV_length, H.out.2.2.2.2.2.2.2.2], own_sl HR.out.1, HR.out.2⟩

theorem asgN_le {c : Cir} (h : c.valid) : 1 ≤ asgN c ∧ asgN c ≤ 128 := by
  obtain ⟨q1, q2, q3, q4, q5⟩ := h.lim
  unfold asgN
  exact ⟨Nat.pow_pos (by omega), Nat.le_trans (Nat.pow_le_pow_right (by omega) (show c.inp.toNat + c.next.length ≤ 7 by omega)) (by decide)⟩

theorem evalV_asg (c : Cir) (x : Int) (ni : Nat) (hi : c.inp = ni) : valsV (-1) false (false :: (bitsV x ni ++ bitsV (x / 2 ^ ni) c.next.length)) c.gates = evalV c x (-1) false := by
  rw [evalV_no]; unfold asgV; rw [hi]; simp

def u8s (xs : List Int) : List Value := xs.map (Value.int .u8)

@[simp] theorem u8s_length (xs : List Int) : (u8s xs).length = xs.length := by simp [u8s]

/-- The reader behind block B: its bytes and its position. -/
structure Rd (w : World) (B : Nat) (s : Option Addr) (c : Nat) (xs : List Int) (p : Nat) : Prop where
  blk : w.heap[B]? = some (.cells #[.slice s xs.length c, .int .i64 (p : Int)] 99 (0, 0))
  bytes : Sl w s (u8s xs)
  range : ∀ x ∈ xs, 0 ≤ x ∧ x ≤ 255
  len : xs.length ≤ 2000
  apart : ∀ a, s = some a → xs ≠ [] → a.block < B

/-- Only block B may have been written. -/
def Upd (B : Nat) (w w' : World) : Prop := w.grownBy w' (some B)

theorem Upd.refl (B : Nat) (w : World) : Upd B w w := World.grownBy.refl w _

theorem Upd.trans {B : Nat} {a b c : World} (h : Upd B a b) (k : Upd B b c) : Upd B a c := World.grownBy.trans h k

theorem Upd.set (B o : Nat) (w : World) (v : Value) : Upd B w (w.setCell ⟨B, o, none⟩ v) :=
  ⟨rfl, rfl, rfl, by rw [size_set]; exact Nat.le_refl _, fun k _ hne => Below.heap_setCell _ _ _ _ (by intro e; apply hne; simp [e])⟩

theorem Upd.n {B : Nat} {w w' : World} (h : Upd B w w') (n : Nat) : Upd B w (w'.drewN n) := ⟨h.os, h.tape, h.output, h.size, h.block⟩

theorem Upd.below {B : Nat} {w w' : World} (h : Upd B w w') {b : Nat} (hB : b ≤ B) (hs : b ≤ w.heap.size) : Below b w w' :=
  ⟨h.os, h.tape, h.output, h.size, fun k hk => h.block k (by omega) (by simp; omega)⟩

theorem Upd.of_below {B : Nat} {w w' : World} (h : Below w.heap.size w w') : Upd B w w' := ⟨h.os, h.tape, h.output, h.size, fun k hk _ => h.block k hk⟩

theorem Rd.setp {w : World} {B : Nat} {s : Option Addr} {c : Nat} {xs : List Int} {p q : Nat} (h : Rd w B s c xs p) : Rd (w.setCell ⟨B, 1, none⟩ (.int .i64 (q : Int))) B s c xs q := by
  refine ⟨by simpa using blk_set (o := 1) (v := .int .i64 (q : Int)) h.blk, ?_, h.range, h.len, h.apart⟩
  refine h.bytes.mono' (B := B) (fun a ha hne => h.apart a ha (by intro e; subst e; simp [u8s] at hne)) ?_
  exact (Below.refl B w).setCell (p := ⟨B, 1, none⟩) (Nat.le_refl _) _

theorem Sl.u8 {w wr : World} {s : Option Addr} {xs : List Int} {B : Nat} (h : Sl w s (u8s xs)) (hB : ∀ a, s = some a → xs ≠ [] → a.block < B) (hbl : Below B w wr) {k : Nat} {x : Int} (hx : xs[k]? = some x) :
    ∃ b off, s = some ⟨b, off, none⟩ ∧ wr.cell? ⟨b, off + k, none⟩ = some (.int .u8 x) := by
  have hlt : k < xs.length := (List.getElem?_eq_some_iff.1 hx).1
  obtain ⟨b, off, rfl, hbw, hcs⟩ := h.at (k := k) (by simpa using hlt)
  have := hB _ rfl (by intro e; subst e; simp at hlt)
  exact ⟨b, off, rfl, by rw [hbl.cell (by exact this)]; exact hcs _ _ (by simp [u8s, hx])⟩

/-- A number that was picked out of n. -/
def Picked (n k : Int) : Prop := 0 ≤ k ∧ (k < n ∨ k = 0)

theorem xor_i64 (a b : Nat) (ha : a < 9223372036854775808) (hb : b < 9223372036854775808) : bits .xor .i64 (a : Int) (b : Int) = ((a ^^^ b : Nat) : Int) := by
  have hx : a ^^^ b < 2 ^ 63 := Nat.xor_lt_two_pow (by omega) (by omega)
  have h1 : (BitVec.ofInt 64 (a : Int)).toNat = a := by
    rw [BitVec.ofInt_natCast, BitVec.toNat_ofNat]; exact Nat.mod_eq_of_lt (by omega)
  have h2 : (BitVec.ofInt 64 (b : Int)).toNat = b := by
    rw [BitVec.ofInt_natCast, BitVec.toNat_ofNat]; exact Nat.mod_eq_of_lt (by omega)
  show IntKind.i64.wrap ((BitVec.ofInt 64 (a : Int) ^^^ BitVec.ofInt 64 (b : Int)).toNat : Int) = _
  rw [BitVec.toNat_xor, h1, h2, IntKind.wrap_i64]
  omega

theorem xor_nonneg {a b : Int} (ha : 0 ≤ a) (ha2 : a < 9223372036854775808) (hb : 0 ≤ b) (hb2 : b < 9223372036854775808) : 0 ≤ bits .xor .i64 a b := by
  obtain ⟨x, rfl⟩ : ∃ x : Nat, a = x := ⟨a.toNat, by omega⟩
  obtain ⟨y, rfl⟩ : ∃ y : Nat, b = y := ⟨b.toNat, by omega⟩
  rw [xor_i64 x y (by omega) (by omega)]
  omega

/-- What the mixture ends in. -/
theorem pick_mix (x y p L q n : Int) (hx : 0 ≤ x ∧ x ≤ 255) (hy : 0 ≤ y ∧ y ≤ 255) (hp : 0 ≤ p ∧ p ≤ 1000000000000) (hq : p / L = q) (hq2 : 0 ≤ q ∧ q ≤ p) (hn : 1 ≤ n) :
    Picked n ((bits .xor .i64 (wrap64 (x * 131 + y * 1117 + p * 29 + wrap64 (wrap64 (p / L) * 53))) (wrap64 ((wrap64 (x * 131 + y * 1117 + p * 29 + wrap64 (wrap64 (p / L) * 53))).tdiv 64))).tmod n) := by
  rw [hq]
  have e1 : wrap64 q = q := IntWalk.wrap64_in q ⟨by omega, by omega⟩
  rw [e1]
  have e2 : wrap64 (q * 53) = q * 53 := IntWalk.wrap64_in _ ⟨by omega, by omega⟩
  rw [e2]
  have e3 : wrap64 (x * 131 + y * 1117 + p * 29 + q * 53) = x * 131 + y * 1117 + p * 29 + q * 53 := IntWalk.wrap64_in _ ⟨by omega, by omega⟩
  rw [e3]
  generalize hz : x * 131 + y * 1117 + p * 29 + q * 53 = z
  have h0 : 0 ≤ z := by omega
  have h1 : z ≤ 1000000000000000 := by omega
  have e4 : z.tdiv 64 = z / 64 := Int.tdiv_eq_ediv_of_nonneg h0
  rw [e4]
  have e5 : wrap64 (z / 64) = z / 64 := IntWalk.wrap64_in _ ⟨by omega, by omega⟩
  rw [e5]
  have hb := xor_nonneg (a := z) (b := z / 64) h0 (by omega) (by omega) (by omega)
  generalize bits .xor .i64 z (z / 64) = t at hb
  exact ⟨Int.tmod_nonneg _ hb, .inl (Int.tmod_lt_of_pos _ (by omega))⟩

set_option maxRecDepth 100000 in
set_option maxHeartbeats 800000 in
theorem pick_any (B : Nat) (s : Option Addr) (c : Nat) (xs : List Int) (p : Nat) (n : Int) (w : World) (h : Rd w B s c xs p) (hp : p ≤ 1000000000000) (hn : n ≤ 1000000000) :
    Calls Try.prog 66 #[.pointer (some ⟨B, 0, none⟩), .int .i64 n] w fun e w' => ∃ k : Int, e = .returned (.int .i64 k) ∧ Picked n k ∧ Rd w' B s c xs (p + 1) ∧ Upd B w w' ∧ w'.heap.size = w.heap.size := by
  have HR := Lib.hid h
  have hc0 : w.cell? ⟨B, 0, none⟩ = some (.slice s xs.length c) := blk_cell h.blk
  have hc1 : w.cell? ⟨B, 1, none⟩ = some (.int .i64 (p : Int)) := blk_cell h.blk
  have hf : w.frozen? ⟨B, 1, none⟩ = false := blk_free h.blk
  have hl : xs.length ≤ 2000 := h.len
  have HS : Hid (Rd (w.setCell ⟨B, 1, none⟩ (.int .i64 ((p : Int) + 1))) B s c xs (p + 1)) := by
    have h2 := h.setp (q := p + 1)
    have e : ((p + 1 : Nat) : Int) = (p : Int) + 1 := by omega
    rw [e] at h2
    exact h2
  clear h
  by_cases h1 : n < 1
  · go_enter Try.func66, Try.ntmps66
    go_wp2
    go_ret
    exact ⟨0, rfl, ⟨by omega, .inr rfl⟩, HS.out, Upd.set _ _ _ _, size_set _ _ _⟩
  · by_cases h0 : xs.length = 0
    · obtain rfl : xs = [] := List.eq_nil_of_length_eq_zero h0
      simp only [List.length_nil] at hc0
      clear h0 hl
      go_enter Try.func66, Try.ntmps66
      go_wp2
      go_ret
      exact ⟨0, rfl, ⟨by omega, .inr rfl⟩, HS.out, Upd.set _ _ _ _, size_set _ _ _⟩
    · have hb0 : ((xs.length : Int) == 0) = false := beq_eq_false_iff_ne.2 (by omega)
      have hbel : Hid (Below B w (w.setCell ⟨B, 1, none⟩ (.int .i64 ((p : Int) + 1)))) := (Below.refl B w).setCell (p := ⟨B, 1, none⟩) (Nat.le_refl _) _
      by_cases hk : p < xs.length
      · obtain ⟨x, hx⟩ := get_of_lt (l := xs) (k := p) hk
        have hxr := HR.out.range x (List.mem_of_getElem? hx)
        obtain ⟨b, off, rfl, hz⟩ := HR.out.bytes.u8 HR.out.apart hbel.out hx
        clear hx h0
        go_enter Try.func66, Try.ntmps66
        go_wp2
        go_ret
        refine ⟨_, rfl, ⟨?_, .inl ?_⟩, HS.out, Upd.set _ _ _ _, size_set _ _ _⟩
        · first | exact Int.emod_nonneg _ (by omega) | exact Int.tmod_nonneg _ (by omega)
        · first | exact Int.emod_lt_of_pos _ (by omega) | exact Int.tmod_lt_of_pos _ (by omega)
      · obtain ⟨m1, hm1e⟩ : ∃ m, m = p % xs.length := ⟨_, rfl⟩
        obtain ⟨m2, hm2e⟩ : ∃ m, m = (p * 7 + 3) % xs.length := ⟨_, rfl⟩
        obtain ⟨q, hqe⟩ : ∃ m, m = p / xs.length := ⟨_, rfl⟩
        have hm1 : m1 < xs.length := by rw [hm1e]; exact Nat.mod_lt _ (by omega)
        have hm2 : m2 < xs.length := by rw [hm2e]; exact Nat.mod_lt _ (by omega)
        have hqp : q ≤ p := by rw [hqe]; exact Nat.div_le_self _ _
        obtain ⟨x, hx⟩ := get_of_lt (l := xs) hm1
        obtain ⟨y, hy⟩ := get_of_lt (l := xs) hm2
        have hxr := HR.out.range x (List.mem_of_getElem? hx)
        have hyr := HR.out.range y (List.mem_of_getElem? hy)
        obtain ⟨b, off, rfl, hz⟩ := HR.out.bytes.u8 HR.out.apart hbel.out hx
        obtain ⟨b', off', hbb, hz2⟩ := HR.out.bytes.u8 HR.out.apart hbel.out hy
        simp only [Option.some.injEq, Addr.mk.injEq, and_true] at hbb
        obtain ⟨rfl, rfl⟩ := hbb
        clear hx hy
        generalize xs.length = L at hc0 hl h0 hb0 hk hm1 hm2 hz hz2 hm1e hm2e hqe
        have hL1 : (1 : Int) ≤ (L : Int) := by omega
        have hLk : (L : Int) ≤ (p : Int) := by omega
        have hL0 : L ≠ 0 := h0
        have hx1 := hxr.1
        have hx2 := hxr.2
        have hy1 := hyr.1
        have hy2 := hyr.2
        have e1' : (p : Int).tmod (L : Int) = (m1 : Int) := by
          rw [Int.tmod_eq_emod_of_nonneg (by omega), ← Int.natCast_emod, ← hm1e]
        have e4' : ((p : Int) * 7 + 3).tmod (L : Int) = (m2 : Int) := by
          rw [Int.tmod_eq_emod_of_nonneg (by omega), show (p : Int) * 7 + 3 = ((p * 7 + 3 : Nat) : Int) from by omega, ← Int.natCast_emod, ← hm2e]
        have e2 : IntKind.i64.wrap ((p : Int) * 7) = (p : Int) * 7 := IntWalk.i64_in _ ⟨by omega, by omega⟩
        have e3 : IntKind.i64.wrap ((p : Int) * 7 + 3) = (p : Int) * 7 + 3 := IntWalk.i64_in _ ⟨by omega, by omega⟩
        have e5 : IntKind.i64.wrap (x * 131) = x * 131 := IntWalk.i64_in _ ⟨by omega, by omega⟩
        have e6 : IntKind.i64.wrap (y * 1117) = y * 1117 := IntWalk.i64_in _ ⟨by omega, by omega⟩
        have e7 : IntKind.i64.wrap (x * 131 + y * 1117) = x * 131 + y * 1117 := IntWalk.i64_in _ ⟨by omega, by omega⟩
        have e8 : IntKind.i64.wrap ((p : Int) * 29) = (p : Int) * 29 := IntWalk.i64_in _ ⟨by omega, by omega⟩
        have e9 : IntKind.i64.wrap (x * 131 + y * 1117 + (p : Int) * 29) = x * 131 + y * 1117 + (p : Int) * 29 := IntWalk.i64_in _ ⟨by omega, by omega⟩
        have i1 : (m1 : Int) < (L : Int) := by omega
        have i2 : (m2 : Int) < (L : Int) := by omega
        have hqi : (p : Int) / (L : Int) = (q : Int) := by rw [hqe, Int.natCast_ediv]
        have HQ := Lib.hid hqi
        clear hm1e hm2e hqe hqi
        clear h0 hk
        go_enter Try.func66, Try.ntmps66
        go_wp2
        go_quiet (fail)
        go_wp2
        go_ret
        refine ⟨_, rfl, pick_mix _ _ _ _ _ _ ⟨hx1, hx2⟩ ⟨hy1, hy2⟩ ⟨by omega, by omega⟩ HQ.out ⟨by omega, by omega⟩ (by omega), ?_, ?_, ?_⟩
        · exact ⟨HS.out.blk, HS.out.bytes, HS.out.range, HS.out.len, HS.out.apart⟩
        · exact (Upd.set _ _ _ _).n _
        · exact size_set _ _ _

theorem Rd.drewN {w : World} {B : Nat} {s : Option Addr} {c : Nat} {xs : List Int} {p : Nat} (h : Rd w B s c xs p) (n : Nat) : Rd (w.drewN n) B s c xs p := ⟨h.blk, h.bytes, h.range, h.len, h.apart⟩

theorem Rd.mono {w w' : World} {B : Nat} {s : Option Addr} {c : Nat} {xs : List Int} {p : Nat} (h : Rd w B s c xs p) (hb : Below w.heap.size w w') : Rd w' B s c xs p :=
  ⟨blk_below hb (blk_lt h.blk) h.blk, h.bytes.mono hb, h.range, h.len, h.apart⟩

/-- What has grown but for a row of the call's own, which lies behind the reader. -/
theorem Rd.grown {w w' : World} {B b : Nat} {s : Option Addr} {c : Nat} {xs : List Int} {p : Nat} (h : Rd w B s c xs p) (hb : Below b w w') (hB : B < b) : Rd w' B s c xs p :=
  ⟨blk_below hb hB h.blk, h.bytes.mono' (B := B) (fun a ha hne => h.apart a ha (by intro e; subst e; simp [u8s] at hne)) (hb.mono (by omega)), h.range, h.len, h.apart⟩

theorem Upd.grown {B b : Nat} {w w' : World} (hb : Below b w w') (hB : ∀ k, b ≤ k → k < w.heap.size → k = B ∨ w'.heap[k]? = w.heap[k]?) : Upd B w w' :=
  ⟨hb.os, hb.tape, hb.output, hb.size, fun k hk hne => by
    by_cases h : k < b
    · exact hb.block k h
    · rcases hB k (by omega) hk with rfl | h2
      · exact absurd rfl hne
      · exact h2⟩

def OddPost (B : Nat) (s : Option Addr) (c : Nat) (xs : List Int) (p : Nat) (w : World) (e : Ending) (w' : World) : Prop :=
  ∃ (b : Bool) (p' : Nat), e = .returned (.bool b) ∧ p' ≤ p + 1 ∧ Rd w' B s c xs p' ∧ Upd B w w' ∧ w'.heap.size = w.heap.size

set_option maxHeartbeats 400000 in
theorem odd_any (B : Nat) (s : Option Addr) (c : Nat) (xs : List Int) (p : Nat) (n : Int) (w : World) (h : Rd w B s c xs p) (hp : p ≤ 1000000000000) (hn : -1000 ≤ n) (hn2 : n ≤ 1000000000) :
    Calls Try.prog 65 #[.pointer (some ⟨B, 0, none⟩), .int .i64 n] w (OddPost B s c xs p w) := by
  by_cases hc : n > 0
  · go_enter Try.func65, Try.ntmps65
    go_wp2_with (go_at_call 66; ((with_reducible refine (pick_any _ _ _ _ _ _ _ h hp hn2).mono ?_); rintro e w' ⟨k, rfl, hk1, hk2, hk3, hk4⟩; have HK := Lib.hid (And.intro hk1 (And.intro hk2 (And.intro hk3 hk4))); clear hk1 hk2 hk3 hk4))
    go_ret
    exact ⟨_, _, rfl, Nat.le_refl _, HK.out.2.1, HK.out.2.2.1, HK.out.2.2.2⟩
  · go_enter Try.func65, Try.ntmps65
    go_wp2
    go_ret
    exact ⟨_, p, rfl, by omega, h, Upd.refl _ _, rfl⟩

set_option maxHeartbeats 400000 in
theorem l20Open_any (s : Option Addr) (cap : Nat) (xs : List Int) (w : World) (hs : Sl w s (u8s xs)) (hl : xs.length ≤ 1048576) (hcap : xs.length ≤ cap) (hcap2 : cap ≤ 9223372036854775807) (hr : ∀ x ∈ xs, 0 ≤ x ∧ x ≤ 255) :
    Calls Try.prog 36 #[.slice s xs.length cap] w fun e w' => ∃ c, e = .returned (.pointer (some ⟨w.heap.size, 0, none⟩)) ∧ Rd w' w.heap.size s c (xs.take 2000) 0 ∧ Below w.heap.size w w' ∧ w'.heap.size = w.heap.size + 1 := by
  have HS := Lib.hid (And.intro hs hr)
  clear hs hr
  have hap : Hid (∀ a, s = some a → xs.take 2000 ≠ [] → a.block < w.heap.size) := fun a ha hne => by
    obtain ⟨b, off, rfl, hb, _⟩ := HS.out.1.at (k := 0) (by rw [u8s_length]; cases xs <;> simp at *)
    cases ha; exact hb
  have hsl : Hid (Sl w s (u8s (xs.take 2000))) := by
    rcases HS.out.1 with h | ⟨b, off, rfl, h⟩
    · left; simp [u8s] at h; simp [u8s, h]
    · right
      refine ⟨b, off, rfl, fun j v hv => h j v ?_⟩
      simp only [u8s, List.getElem?_map, List.getElem?_take] at hv ⊢
      split at hv
      · exact hv
      · simp at hv
  by_cases hc : xs.length ≤ 2000
  · have e : xs.take 2000 = xs := List.take_of_length_le hc
    have HE := Lib.hid e
    clear e
    go_enter Try.func36, Try.ntmps36
    go_wp2
    go_ret
    have e := HE.out
    refine ⟨cap, rfl, ⟨?_, hsl.out.mono ((Below.refl _ _).alloc (Nat.le_refl _) _), fun x hx => HS.out.2 x (List.mem_of_mem_take hx), by rw [e]; exact hc, hap.out⟩, (Below.refl _ _).alloc (Nat.le_refl _) _, by simp⟩
    rw [e]; exact blk_new _ _
  · have e : (xs.take 2000).length = 2000 := by rw [List.length_take]; omega
    have HE := Lib.hid e
    clear e
    go_enter Try.func36, Try.ntmps36
    go_wp2
    go_ret
    have e := HE.out
    refine ⟨cap, rfl, ⟨?_, hsl.out.mono ((Below.refl _ _).alloc (Nat.le_refl _) _), fun x hx => HS.out.2 x (List.mem_of_mem_take hx), by rw [e]; exact Nat.le_refl _, hap.out⟩, (Below.refl _ _).alloc (Nat.le_refl _) _, by simp⟩
    rw [e]; exact blk_new _ _

/-- Below b nothing has turned but block B. -/
structure Kp (B b : Nat) (w w' : World) : Prop where
  os : w'.os = w.os
  tape : w'.tape = w.tape
  output : w'.output = w.output
  size : w.heap.size ≤ w'.heap.size
  block : ∀ k, k < b → k ≠ B → w'.heap[k]? = w.heap[k]?

theorem Kp.refl (B b : Nat) (w : World) : Kp B b w w := ⟨rfl, rfl, rfl, Nat.le_refl _, fun _ _ _ => rfl⟩

theorem Kp.trans {B b : Nat} {x y z : World} (h : Kp B b x y) (k : Kp B b y z) : Kp B b x z :=
  ⟨k.os.trans h.os, k.tape.trans h.tape, k.output.trans h.output, Nat.le_trans h.size k.size, fun i hi hn => (k.block i hi hn).trans (h.block i hi hn)⟩

theorem Kp.mono {B b b' : Nat} {w w' : World} (h : Kp B b w w') (hb : b' ≤ b) : Kp B b' w w' := ⟨h.os, h.tape, h.output, h.size, fun k hk hn => h.block k (by omega) hn⟩

theorem Kp.of_below {B b : Nat} {w w' : World} (h : Below b w w') : Kp B b w w' := ⟨h.os, h.tape, h.output, h.size, fun k hk _ => h.block k hk⟩

theorem Kp.of_upd {B b : Nat} {w w' : World} (h : Upd B w w') (hb : b ≤ w.heap.size) : Kp B b w w' := ⟨h.os, h.tape, h.output, h.size, fun k hk hn => h.block k (by omega) (by simp; exact hn)⟩

theorem Kp.below {B b b' : Nat} {w w' : World} (h : Kp B b w w') (h1 : b' ≤ B) (h2 : b' ≤ b) : Below b' w w' := ⟨h.os, h.tape, h.output, h.size, fun k hk => h.block k (by omega) (by omega)⟩

theorem Kp.alloc {B b : Nat} {w w' : World} (h : Kp B b w w') (hb : b ≤ w.heap.size) (o : Obj) : Kp B b w (w'.alloc o) :=
  h.trans (Kp.of_below ((Below.refl _ _).alloc (Nat.le_trans hb h.size) o))

theorem own_kp {w w' : World} {base B b : Nat} {e : TypeId} {size : Nat} {v : Value} {n : Nat} {xs : List Value} (h : w.ownsRow base e size v n xs) (hB : B < base) (hb : ∀ k, v.ownBlock = some k → k < b) (hk : Kp B b w w') : w'.ownsRow base e size v n xs := by
  refine ⟨h.1, ?_⟩
  rcases h.2 with hn | ⟨g, cap, cur, rfl, hb', hg, rest⟩
  · exact .inl hn
  · exact .inr ⟨g, cap, cur, rfl, hb', by rw [hk.block g (hb g rfl) (by omega)]; exact hg, rest⟩

/-! A circuit that is being drawn: the reader behind block R, the circuit in block B. -/

structure KT (R : Nat) (s : Option Addr) (c : Nat) (xs : List Int) (w0 : World) (B : Nat) (inp : Int) (xn : List Int) (xg : List Gt) (xo : List Int) (vn vg vo : Value) (p : Nat) (w : World) : Prop where
  out : OutC w w0.heap.size B inp xn xg xo vn vg vo
  rd : Rd w R s c xs p
  kp : Kp R w0.heap.size w0 w
  hR : R < w0.heap.size
  hB : w0.heap.size ≤ B

theorem KT.upd {R : Nat} {s : Option Addr} {c : Nat} {xs : List Int} {w0 : World} {B : Nat} {inp : Int} {xn : List Int} {xg : List Gt} {xo : List Int} {vn vg vo : Value} {p p2 : Nat} {w1 w2 : World} (h : KT R s c xs w0 B inp xn xg xo vn vg vo p w1) (hr : Rd w2 R s c xs p2) (hu : Upd R w1 w2) : KT R s c xs w0 B inp xn xg xo vn vg vo p2 w2 := by
  have h1 := h.hR; have h2 := h.hB; have h3 := blk_lt h.out.blk
  have k : Kp R w1.heap.size w1 w2 := Kp.of_upd hu (Nat.le_refl _)
  refine ⟨⟨by rw [hu.block B h3 (by simp; omega)]; exact h.out.blk, own_kp h.out.n h1 (fun k e => (own_blk h.out.n e).2) k, own_kp h.out.g h1 (fun k e => (own_blk h.out.g e).2) k, own_kp h.out.o h1 (fun k e => (own_blk h.out.o e).2) k, h.out.ne⟩, hr, h.kp.trans (k.mono (by omega)), h1, h2⟩

theorem KT.below {R : Nat} {s : Option Addr} {c : Nat} {xs : List Int} {w0 : World} {B : Nat} {inp : Int} {xn : List Int} {xg : List Gt} {xo : List Int} {vn vg vo : Value} {p : Nat} {w1 w2 : World} (h : KT R s c xs w0 B inp xn xg xo vn vg vo p w1) (hb : Below w1.heap.size w1 w2) : KT R s c xs w0 B inp xn xg xo vn vg vo p w2 :=
  h.upd (h.rd.mono hb) (Upd.of_below hb)

theorem KT.alloc {R : Nat} {s : Option Addr} {c : Nat} {xs : List Int} {w0 : World} {B : Nat} {inp : Int} {xn : List Int} {xg : List Gt} {xo : List Int} {vn vg vo : Value} {p : Nat} {w1 : World} (h : KT R s c xs w0 B inp xn xg xo vn vg vo p w1) (o : Obj) : KT R s c xs w0 B inp xn xg xo vn vg vo p (w1.alloc o) :=
  h.below ((Below.refl _ _).alloc (Nat.le_refl _) _)

theorem KT.drew {R : Nat} {s : Option Addr} {c : Nat} {xs : List Int} {w0 : World} {B : Nat} {inp : Int} {xn : List Int} {xg : List Gt} {xo : List Int} {vn vg vo : Value} {p : Nat} {w1 : World} (h : KT R s c xs w0 B inp xn xg xo vn vg vo p w1) : KT R s c xs w0 B inp xn xg xo vn vg vo p w1.drew :=
  h.below (Below.refl _ _).drew

theorem KT.cells {R : Nat} {s : Option Addr} {c : Nat} {xs : List Int} {w0 : World} {B : Nat} {inp : Int} {xn : List Int} {xg : List Gt} {xo : List Int} {vn vg vo : Value} {p : Nat} {w1 : World} (h : KT R s c xs w0 B inp xn xg xo vn vg vo p w1) : (∀ o, w1.cell? ⟨B, o, none⟩ = #[Value.int .i64 inp, vn, vg, vo][o]?) ∧ ∀ o, w1.frozen? ⟨B, o, none⟩ = false := blk_all h.out.blk

theorem KT.kpG {R : Nat} {s : Option Addr} {c : Nat} {xs : List Int} {w0 : World} {B : Nat} {inp : Int} {xn : List Int} {xg : List Gt} {xo : List Int} {vn vg vo : Value} {p : Nat} {w1 w2 : World} (h : KT R s c xs w0 B inp xn xg xo vn vg vo p w1) (hb : Below w0.heap.size w1 w2) : Rd w2 R s c xs p ∧ Kp R w0.heap.size w0 w2 :=
  ⟨h.rd.grown hb h.hR, h.kp.trans (Kp.of_below hb)⟩

theorem KT.sz {R : Nat} {s : Option Addr} {c : Nat} {xs : List Int} {w0 : World} {B : Nat} {inp : Int} {xn : List Int} {xg : List Gt} {xo : List Int} {vn vg vo : Value} {p : Nat} {w1 : World} (h : KT R s c xs w0 B inp xn xg xo vn vg vo p w1) : w0.heap.size ≤ w1.heap.size := h.kp.size

theorem KT.pushN {R : Nat} {s : Option Addr} {c : Nat} {xs : List Int} {w0 : World} {B : Nat} {inp : Int} {xn xn' : List Int} {xg : List Gt} {xo : List Int} {vn vn' vg vo : Value} {p : Nat} {w1 w2 : World} (h : KT R s c xs w0 B inp xn xg xo vn vg vo p w1)
    (hg : w1.grownBy w2 vn.ownBlock) (ho : w2.ownsRow w0.heap.size 3 1 vn' xn'.length (ints xn')) (hb : vn'.ownBlock = vn.ownBlock ∨ vn'.ownBlock = some w1.heap.size) : w2.heap[B]? = some (.cells #[.int .i64 inp, vn, vg, vo] 26 (0, 0)) ∧ KT R s c xs w0 B inp xn' xg xo vn' vg vo p (w2.setCell ⟨B, 1, none⟩ vn') := by
  obtain ⟨a, b⟩ := h.out.pushN hg ho hb
  have hb2 : Below w0.heap.size w1 w2 := (Below.refl _ _).grown hg h.sz (fun q e => (own_blk h.out.n e).1)
  obtain ⟨r, k⟩ := h.kpG (hb2.setCell (p := ⟨B, 1, none⟩) h.hB vn')
  exact ⟨a, b, r, k, h.hR, h.hB⟩

theorem KT.pushG {R : Nat} {s : Option Addr} {c : Nat} {xs : List Int} {w0 : World} {B : Nat} {inp : Int} {xn : List Int} {xg xg' : List Gt} {xo : List Int} {vn vg vg' vo : Value} {p : Nat} {w1 w2 : World} (h : KT R s c xs w0 B inp xn xg xo vn vg vo p w1)
    (hg : w1.grownBy w2 vg.ownBlock) (ho : w2.ownsRow w0.heap.size 61 2 vg' xg'.length (gcells xg')) : w2.heap[B]? = some (.cells #[.int .i64 inp, vn, vg, vo] 26 (0, 0)) ∧ KT R s c xs w0 B inp xn xg' xo vn vg' vo p (w2.setCell ⟨B, 2, none⟩ vg') := by
  obtain ⟨a, b⟩ := h.out.pushG hg ho
  have hb2 : Below w0.heap.size w1 w2 := (Below.refl _ _).grown hg h.sz (fun q e => (own_blk h.out.g e).1)
  obtain ⟨r, k⟩ := h.kpG (hb2.setCell (p := ⟨B, 2, none⟩) h.hB vg')
  exact ⟨a, b, r, k, h.hR, h.hB⟩

theorem KT.pushO {R : Nat} {s : Option Addr} {c : Nat} {xs : List Int} {w0 : World} {B : Nat} {inp : Int} {xn : List Int} {xg : List Gt} {xo xo' : List Int} {vn vg vo vo' : Value} {p : Nat} {w1 w2 : World} (h : KT R s c xs w0 B inp xn xg xo vn vg vo p w1)
    (hg : w1.grownBy w2 vo.ownBlock) (ho : w2.ownsRow w0.heap.size 3 1 vo' xo'.length (ints xo')) (hb : vo'.ownBlock = vo.ownBlock ∨ vo'.ownBlock = some w1.heap.size) : w2.heap[B]? = some (.cells #[.int .i64 inp, vn, vg, vo] 26 (0, 0)) ∧ KT R s c xs w0 B inp xn xg xo' vn vg vo' p (w2.setCell ⟨B, 3, none⟩ vo') := by
  obtain ⟨a, b⟩ := h.out.pushO hg ho hb
  have hb2 : Below w0.heap.size w1 w2 := (Below.refl _ _).grown hg h.sz (fun q e => (own_blk h.out.o e).1)
  obtain ⟨r, k⟩ := h.kpG (hb2.setCell (p := ⟨B, 3, none⟩) h.hB vo')
  exact ⟨a, b, r, k, h.hR, h.hB⟩

theorem KT.setInp {R : Nat} {s : Option Addr} {c : Nat} {xs : List Int} {w0 : World} {B : Nat} {inp : Int} {xn : List Int} {xg : List Gt} {xo : List Int} {vn vg vo : Value} {p : Nat} {w1 : World} (h : KT R s c xs w0 B inp xn xg xo vn vg vo p w1) (y : Int) : KT R s c xs w0 B y xn xg xo vn vg vo p (w1.setCell ⟨B, 0, none⟩ (.int .i64 y)) := by
  obtain ⟨r, k⟩ := h.kpG (((Below.refl _ w1).mono h.sz).setCell (p := ⟨B, 0, none⟩) h.hB (.int .i64 y))
  exact ⟨⟨by simpa using blk_set (o := 0) (v := .int .i64 y) h.out.blk, own_set_ne h.out.n (own_tyb h.out.n h.out.blk (by decide)) _, own_set_ne h.out.g (own_tyb h.out.g h.out.blk (by decide)) _, own_set_ne h.out.o (own_tyb h.out.o h.out.blk (by decide)) _, h.out.ne⟩, r, k, h.hR, h.hB⟩

def PkK (R : Nat) (s : Option Addr) (c : Nat) (xs : List Int) (w0 : World) (B : Nat) (inp : Int) (xn : List Int) (xg : List Gt) (xo : List Int) (vn vg vo : Value) (p : Nat) (n : Int) (w1 : World) (e : Ending) (w' : World) : Prop :=
  ∃ k : Nat, e = .returned (.int .i64 k) ∧ Picked n k ∧ KT R s c xs w0 B inp xn xg xo vn vg vo (p + 1) w' ∧ Upd R w1 w' ∧ w'.heap.size = w1.heap.size

theorem pick_kt (R : Nat) (s : Option Addr) (c : Nat) (xs : List Int) (w0 : World) (B : Nat) (inp : Int) (xn : List Int) (xg : List Gt) (xo : List Int) (vn vg vo : Value) (p : Nat) (n : Int) (w1 : World) (h : KT R s c xs w0 B inp xn xg xo vn vg vo p w1) (hp : p ≤ 1000000000) (hn : n ≤ 1000000) :
    Calls Try.prog 66 #[.pointer (some ⟨R, 0, none⟩), .int .i64 n] w1 (PkK R s c xs w0 B inp xn xg xo vn vg vo p n w1) :=
  (pick_any _ _ _ _ _ _ _ h.rd (by omega) (by omega)).mono fun _ _ ⟨k, h1, h2, h3, h4, h5⟩ => by
    obtain ⟨m, rfl⟩ : ∃ m : Nat, k = m := ⟨k.toNat, by have := h2.1; omega⟩
    exact ⟨m, h1, h2, h.upd h3 h4, h4, h5⟩

theorem odd_kt (R : Nat) (s : Option Addr) (c : Nat) (xs : List Int) (w0 : World) (B : Nat) (inp : Int) (xn : List Int) (xg : List Gt) (xo : List Int) (vn vg vo : Value) (p : Nat) (n : Int) (w1 : World) (h : KT R s c xs w0 B inp xn xg xo vn vg vo p w1) (hp : p ≤ 1000000000) (hn0 : -1000 ≤ n) (hn : n ≤ 1000000000) :
    Calls Try.prog 65 #[.pointer (some ⟨R, 0, none⟩), .int .i64 n] w1 fun e w' => ∃ (k : Bool) (p' : Nat), e = .returned (.bool k) ∧ p' ≤ p + 1 ∧ KT R s c xs w0 B inp xn xg xo vn vg vo p' w' :=
  (odd_any _ _ _ _ _ _ _ h.rd (by omega) hn0 hn).mono fun _ _ ⟨k, p', h1, h2, h3, h4, _⟩ => ⟨k, p', h1, h2, h.upd h3 h4⟩

end Go.Proofs.Ytaboipnigeaopaa
