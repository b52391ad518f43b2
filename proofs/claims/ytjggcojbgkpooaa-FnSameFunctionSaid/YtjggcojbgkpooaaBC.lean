import Derived.Test.YtjggcojbgkpooaaM2
import Derived.Test.YtjggcojbgkpooaaBD
import Derived.Test.YtjggcojbgkpooaaBE
import Derived.Test.YtjggcojbgkpooaaP1
import Derived.Test.YtjggcojbgkpooaaL3
import Derived.Test.YtjggcojbgkpooaaL4
namespace Go.Proofs.Ytjggcojbgkpooaa
set_option linter.unusedVariables false
set_option linter.unusedSimpArgs false
open Go.RowKit

/-! A map from nodes to their numbers, made by the call. -/

def entsN : List Nd → Nat → List (Value × Value)
  | [], _ => []
  | x :: xs, i => (x.agg, .int .i64 (i : Int)) :: entsN xs (i + 1)
theorem entsN_app (Ks : List Nd) (x : Nd) : ∀ i, entsN (Ks ++ [x]) i = entsN Ks i ++ [(x.agg, .int .i64 ((i + Ks.length : Nat) : Int))] := by
  induction Ks with
  | nil => intro i; simp [entsN]
  | cons y ys ih =>
    intro i
    show (_ :: entsN (ys ++ [x]) (i + 1)) = _
    rw [ih (i + 1)]
    simp [entsN]
    omega
theorem fk_ents {x : Nd} : ∀ {Ks : List Nd} {es : List MapEntry} {i : Nat} (j : Nat), es.map (fun e => (e.key, e.val)) = entsN Ks i →
    fk (fun v => decide (x = ndOf v)) es j = (fdK Ks x).map fun k => (j + k, Value.int .i64 ((i + k : Nat) : Int))
  | [], [], _, _, _ => rfl
  | [], _ :: _, _, _, h => by simp [entsN] at h
  | _ :: _, [], _, _, h => by simp [entsN] at h
  | y :: ys, e :: es, i, j, h => by
    simp only [List.map_cons, entsN, List.cons.injEq, Prod.mk.injEq] at h
    obtain ⟨⟨h1, h2⟩, h3⟩ := h
    have ih := fk_ents (x := x) (Ks := ys) (es := es) (i := i + 1) (j + 1) h3
    unfold fk fdK
    rw [h1, ndOf_agg]
    by_cases he : x = y
    · rw [if_pos (by simpa using he), if_pos he, h2]; rfl
    · rw [if_neg (by simpa using he), if_neg he, ih]
      cases fdK ys x with
      | none => rfl
      | some k => simp only [Option.map_some, Option.some.injEq, Prod.mk.injEq, Value.int.injEq, true_and]; omega
theorem ents_key {Ks : List Nd} : ∀ {i : Nat} {p : Value × Value}, p ∈ entsN Ks i → ∃ y : Nd, p.1 = y.agg := by
  induction Ks with
  | nil => intro i p h; cases h
  | cons y ys ih =>
    intro i p h
    rcases List.mem_cons.1 h with rfl | h
    · exact ⟨y, rfl⟩
    · exact ih h

/-- Block b is a map that holds exactly the nodes Ks, with the numbers from 2 on. -/
def MapN (w : World) (b : Nat) (Ks : List Nd) : Prop :=
  ∃ es clock, w.heap[b]? = some (.map es clock) ∧ es.toList.map (fun e => (e.key, e.val)) = entsN Ks 2
theorem MapN.key {es : List MapEntry} {Ks : List Nd} (h : es.map (fun e => (e.key, e.val)) = entsN Ks 2) : ∀ e ∈ es, ∃ y : Nd, e.key = y.agg := by
  intro e he
  have : (e.key, e.val) ∈ entsN Ks 2 := by rw [← h]; exact List.mem_map.2 ⟨e, he, rfl⟩
  exact ents_key this
theorem mapn_lookup {w : World} {b : Nat} {Ks : List Nd} (h : MapN w b Ks) (x : Nd) :
    (Instr.lookup 71 (.map (some b)) x.agg true).run Try.prog w = .ok (match fdK Ks x with
      | some i => .tuple #[.int .i64 ((i + 2 : Nat) : Int), .bool true]
      | none => .tuple #[.int .i64 0, .bool false]) w := by
  obtain ⟨es, clock, hb, hm⟩ := h
  obtain ⟨fs, hu, hc⟩ := und_nd
  have hk := MapN.key hm
  have hr := run_lookup_map (P := Try.prog) (w := w) (T := 71) (K := 76) (E := 3) Try.underlying71 hu hb (k := x.agg) (p := fun v => decide (x = ndOf v)) (z := .int .i64 0) (by kernel_rfl) (fun e => hc e x w)
    (fun e he => by obtain ⟨y, h1⟩ := hk e he; rw [h1]; exact equal_nd x y w) true
  rw [hr, fk_ents (x := x) 0 hm]
  cases fdK Ks x with
  | none => rfl
  | some k => simp [Nat.add_comm]
theorem mapn_update {w : World} {b : Nat} {Ks : List Nd} (h : MapN w b Ks) (x : Nd) (hx : fdK Ks x = none) :
    ∃ w', (Instr.mapUpdate 71 (.map (some b)) x.agg (.int .i64 ((Ks.length + 2 : Nat) : Int))).run Try.prog w = .ok () w' ∧ MapN w' b (Ks ++ [x]) ∧ w.grownBy w' (some b) ∧ w'.heap.size = w.heap.size := by
  obtain ⟨es, clock, hb, hm⟩ := h
  obtain ⟨fs, hu, hc⟩ := und_nd
  have hk := MapN.key hm
  have hr := run_update_new (P := Try.prog) (w := w) (T := 71) (K := 76) (E := 3) Try.underlying71 hu hb (k := x.agg) (v := .int .i64 ((Ks.length + 2 : Nat) : Int)) (p := fun v => decide (x = ndOf v)) (fun e => hc e x w)
    (fun e he => by obtain ⟨y, h1⟩ := hk e he; rw [h1]; exact equal_nd x y w) (by rw [fk_ents (x := x) 0 hm, hx]; rfl)
  have hlt := blk_lt hb
  refine ⟨_, hr, ⟨_, _, by simp [hlt]; exact ⟨rfl, rfl⟩, by simp [hm, entsN_app]; omega⟩, ⟨rfl, rfl, rfl, by simp, fun k hk1 hk2 => ?_⟩, by simp⟩
  have : b ≠ k := fun e => hk2 (by rw [e])
  simp [this]
theorem MapN.new (w : World) : MapN (w.alloc (.map #[] 0)) w.heap.size [] := ⟨#[], 0, blk_new _ _, rfl⟩
theorem MapN.below {w w' : World} {b : Nat} {Ks : List Nd} (h : MapN w b Ks) (hb : Below w.heap.size w w') : MapN w' b Ks := by
  obtain ⟨es, clock, h1, h2⟩ := h
  exact ⟨es, clock, blk_below hb (blk_lt h1) h1, h2⟩
theorem MapN.lt {w : World} {b : Nat} {Ks : List Nd} (h : MapN w b Ks) : b < w.heap.size := by
  obtain ⟨es, clock, h1, h2⟩ := h; exact blk_lt h1

/-! The nodes of a diagram, made by the program. -/

theorem elem_node : ElemOf Try.prog 33 76 (.agg #[.int .i64 0, .int .i64 0, .int .i64 0]) 3 24 :=
  ⟨by kernel_rfl, info_parts (by kernel_rfl), rfl, by omega⟩
theorem ncells_append (xs ys : List Nd) : ncells xs ++ ncells ys = ncells (xs ++ ys) := by
  induction xs with
  | nil => rfl
  | cons x xs ih => simp [ncells] at ih ⊢
theorem or_pow7 (x v : Nat) (hv : v ≤ 6) (hx : x < 2 ^ v) : bits .or .i64 (x : Int) (2 ^ v) = ((x + 2 ^ v : Nat) : Int) := by
  have h : ∀ (v : Fin 7) (x : Fin 64), x.val < 2 ^ v.val → bits .or .i64 ((x.val : Nat) : Int) (2 ^ v.val) = ((x.val + 2 ^ v.val : Nat) : Int) := by decide +kernel
  have h64 : 2 ^ v ≤ 2 ^ 6 := Nat.pow_le_pow_right (by omega) hv
  exact h ⟨v, by omega⟩ ⟨x, by omega⟩ hx
theorem mapn_nocell {w : World} {b : Nat} {Ks : List Nd} (h : MapN w b Ks) {cs : Array Value} {t : TypeId} {fz : Nat × Nat} : w.heap[b]? ≠ some (.cells cs t fz) := by
  obtain ⟨es, clock, h1, _⟩ := h
  rw [h1]; intro e; cases e
theorem own_nomapn {w : World} {base : Nat} {e : TypeId} {size : Nat} {v : Value} {n : Nat} {xs : List Value} (h : w.ownsRow base e size v n xs) {b : Nat} {Ks : List Nd} (hm : MapN w b Ks) : v.ownBlock ≠ some b := by
  intro hb
  rcases h.2 with ⟨rfl, _⟩ | ⟨g, cap, cur, rfl, _, hg, _⟩
  · cases hb
  · cases hb; exact mapn_nocell hm hg

/-- The maker in block b of world W: the nodes Ks. -/
structure BM (W0 : World) (b mb : Nat) (st : Option Addr) (ct : Nat) (tb : List Bool) (n : Nat) (W : World) (Ks : List Nd) (vn : Value) : Prop where
  blk : W.heap[b]? = some (.cells #[.slice st tb.length ct, .int .i64 n, vn, .map (some mb)] 73 (0, 0))
  own : W.ownsRow W0.heap.size 76 3 vn (Ks.length + 2) (ncells (zz Ks))
  map : MapN W mb Ks
  tab : W.ownsRow W0.heap.size 4 1 (.slice st tb.length ct) tb.length (bools tb)
  bl : Below W0.heap.size W0 W
  hb : W0.heap.size ≤ b
  hm : W0.heap.size ≤ mb
theorem BM.below {W0 W W' : World} {b mb : Nat} {st : Option Addr} {ct : Nat} {tb : List Bool} {n : Nat} {Ks : List Nd} {vn : Value} (h : BM W0 b mb st ct tb n W Ks vn) (hq : Below W.heap.size W W') : BM W0 b mb st ct tb n W' Ks vn :=
  ⟨blk_below hq (blk_lt h.blk) h.blk, own_below h.own hq, h.map.below hq, own_below h.tab hq, h.bl.trans (hq.mono h.bl.size), h.hb, h.hm⟩
theorem BM.shape {W0 W : World} {b mb : Nat} {st : Option Addr} {ct : Nat} {tb : List Bool} {n : Nat} {Ks : List Nd} {vn : Value} (h : BM W0 b mb st ct tb n W Ks vn) : ∃ s c, vn = .slice s (Ks.length + 2) c := own_shape h.own
theorem BM.ne {W0 W : World} {b mb : Nat} {st : Option Addr} {ct : Nat} {tb : List Bool} {n : Nat} {Ks : List Nd} {vn : Value} (h : BM W0 b mb st ct tb n W Ks vn) : b ≠ mb := by
  intro e; subst e; exact mapn_nocell h.map h.blk
/-- A new node is put into the map. -/
theorem BM.put {W0 W W' : World} {b mb : Nat} {st : Option Addr} {ct : Nat} {tb : List Bool} {n : Nat} {Ks : List Nd} {vn : Value} (h : BM W0 b mb st ct tb n W Ks vn) (hg : W.grownBy W' (some mb)) :
    W'.heap[b]? = some (.cells #[.slice st tb.length ct, .int .i64 n, vn, .map (some mb)] 73 (0, 0)) ∧ W'.ownsRow W0.heap.size 76 3 vn (Ks.length + 2) (ncells (zz Ks)) ∧ W'.ownsRow W0.heap.size 4 1 (.slice st tb.length ct) tb.length (bools tb) ∧ Below W0.heap.size W0 W' := by
  have hc := Chg.of_grown hg
  have hlt := h.map.lt
  refine ⟨by rw [hg.block b (blk_lt h.blk) (fun e => h.ne (by cases e; rfl))]; exact h.blk, hc.own h.own (fun k hk hs => own_nomapn h.own h.map (by rw [hk]; exact hs.symm)), hc.own h.tab (fun k hk hs => own_nomapn h.tab h.map (by rw [hk]; exact hs.symm)), h.bl.trans (hc.below h.bl.size (fun k hk hs => ?_))⟩
  cases hs; have := h.hm; omega
theorem own_ne_ty {w : World} {base : Nat} {e t : TypeId} {size : Nat} {v : Value} {n : Nat} {xs : List Value} (h : w.ownsRow base e size v n xs) {b : Nat} {cs : Array Value} {fz : Nat × Nat} (hb : w.heap[b]? = some (.cells cs t fz)) (he : e ≠ t) : v.ownBlock ≠ some b := by
  intro hk
  rcases h.2 with ⟨rfl, _⟩ | ⟨g, cap, cur, rfl, _, hg, _⟩
  · cases hk
  · cases hk
    rw [hg] at hb
    simp only [Option.some.injEq, Obj.cells.injEq] at hb
    exact he hb.2.1
/-- A node is appended, and the row stored. -/
theorem BM.grow {W0 W W2 : World} {b mb : Nat} {st : Option Addr} {ct : Nat} {tb : List Bool} {n : Nat} {vn v6 : Value} {Kx K' : List Nd} (hblk : W.heap[b]? = some (.cells #[.slice st tb.length ct, .int .i64 n, vn, .map (some mb)] 73 (0, 0))) (hown : W.ownsRow W0.heap.size 76 3 vn (Kx.length + 2) (ncells (zz Kx)))
    (htab : W.ownsRow W0.heap.size 4 1 (.slice st tb.length ct) tb.length (bools tb)) (hmap : MapN W mb K') (hbl : Below W0.heap.size W0 W) (hb : W0.heap.size ≤ b) (hm : W0.heap.size ≤ mb)
    (h6 : W2.ownsRow W0.heap.size 76 3 v6 (K'.length + 2) (ncells (zz K'))) (hg : W.grownBy W2 vn.ownBlock) (hob : v6.ownBlock = vn.ownBlock ∨ v6.ownBlock = some W.heap.size) :
    W2.heap[b]? = some (.cells #[.slice st tb.length ct, .int .i64 n, vn, .map (some mb)] 73 (0, 0)) ∧ BM W0 b mb st ct tb n (W2.setCell ⟨b, 2, none⟩ v6) K' v6 := by
  have hc := Chg.of_grown hg
  have n1 := own_ne_ty hown hblk (by decide)
  have n2 := own_nomapn hown hmap
  have n3 : v6.ownBlock ≠ some b := by
    rcases hob with e | e
    · rw [e]; exact n1
    · rw [e]; have := blk_lt hblk; simp; omega
  have n4 : (Value.slice st tb.length ct).ownBlock ≠ some b := own_ne_ty htab hblk (by decide)
  have hbm : b ≠ mb := by intro e; subst e; exact mapn_nocell hmap hblk
  have hb2 := hc.blk hblk n1
  obtain ⟨es, clock, m1, m2⟩ := hmap
  have hm2 := hc.blk m1 n2
  have hbl2 : Below W0.heap.size W0 W2 := hbl.trans (hc.below hbl.size (fun k hk hs => by have := (own_blk hown hs).1; omega))
  refine ⟨hb2, ⟨by simpa using blk_set (o := 2) (v := v6) hb2, own_set_ne h6 n3 _, ⟨es, clock, blk_set_ne hbm hm2, m2⟩, own_set_ne (hc.own htab (fun k hk hs => own_ty htab hown (by decide) hk hs)) n4 _, hbl2.setCell (p := ⟨b, 2, none⟩) hb _, hb, hm⟩⟩
def BmPost (W0 : World) (b mb : Nat) (st : Option Addr) (ct : Nat) (tb : List Bool) (n : Nat) (r : List Nd × Int) (e : Ending) (w' : World) : Prop :=
  ∃ vn, e = .returned (.int .i64 r.2) ∧ BM W0 b mb st ct tb n w' r.1 vn

set_option maxRecDepth 100000 in
set_option maxHeartbeats 3200000 in
theorem build_any (W0 : World) (b mb : Nat) (st : Option Addr) (ct : Nat) (tb : List Bool) (n : Nat) (hn7 : n ≤ 7) (htb : tb.length = 2 ^ n) : ∀ (d v x : Nat) (Ks : List Nd) (vn : Value) (w : World), BM W0 b mb st ct tb n w Ks vn → v + d = n → x < 2 ^ v → Ks.length + 2 ^ d ≤ 1000 →
    Calls Try.prog 56 #[.pointer (some ⟨b, 0, none⟩), .int .i64 (v : Int), .int .i64 (x : Int)] w (BmPost W0 b mb st ct tb n (bldK (fun j => tb.getD j false) d v x Ks)) := by
  intro d
  induction d with
  | zero =>
    intro v x Ks vn w h hv hx hl
    obtain rfl : v = n := by omega
    have H := Lib.hid h
    have cb := (blk_all h.blk).1
    obtain ⟨y, hy⟩ := get_of_lt (l := tb) (k := x) (by rw [htb]; exact hx)
    obtain ⟨tk, tof, rfl, -, zt⟩ := (own_sl h.tab).bool (Below.refl _ _) hy
    have htl : x < tb.length := (List.getElem?_eq_some_iff.1 hy).1
    have hy2 : Hid (tb.getD x false = y) := by show _ = _; rw [List.getD_eq_getElem?_getD, hy]; rfl
    clear h hy hx hl htb hv
    go_enter Try.func56, Try.ntmps56
    cases y
    · go_wp2
      go_ret
      exact ⟨vn, by unfold bldK; dsimp only; rw [hy2.out]; rfl, H.out⟩
    · go_wp2
      go_ret
      exact ⟨vn, by unfold bldK; dsimp only; rw [hy2.out]; rfl, H.out⟩
  | succ d ih =>
    intro v x Ks vn w h hv hx hl
    have H := Lib.hid h
    have hvn : v < n := by omega
    have hs : 2 ^ (d + 1) = 2 ^ d + 2 ^ d := by rw [Nat.pow_succ]; omega
    have hor := or_pow7 x v (by omega) hx
    have hwp : wrap64 (2 ^ v) = 2 ^ v := wrap_pow (by omega)
    have hx1 : x < 2 ^ (v + 1) := by rw [Nat.pow_succ]; omega
    have hx2 : x + 2 ^ v < 2 ^ (v + 1) := by rw [Nat.pow_succ]; omega
    have hl1 := bldK_len (fun j => tb.getD j false) d (v + 1) x Ks
    have hl2 := bldK_len (fun j => tb.getD j false) d (v + 1) (x + 2 ^ v) (bldK (fun j => tb.getD j false) d (v + 1) x Ks).1
    have i1 := bldK_id (fun j => tb.getD j false) d (v + 1) x Ks
    have i2 := bldK_id (fun j => tb.getD j false) d (v + 1) (x + 2 ^ v) (bldK (fun j => tb.getD j false) d (v + 1) x Ks).1
    have he : bldK (fun j => tb.getD j false) (d + 1) v x Ks = mkK (bldK (fun j => tb.getD j false) d (v + 1) (x + 2 ^ v) (bldK (fun j => tb.getD j false) d (v + 1) x Ks).1).1 v (bldK (fun j => tb.getD j false) d (v + 1) x Ks).2 (bldK (fun j => tb.getD j false) d (v + 1) (x + 2 ^ v) (bldK (fun j => tb.getD j false) d (v + 1) x Ks).1).2 := rfl
    have ih1 := fun w h => ih (v + 1) x Ks vn w h (by omega) hx1 (by omega)
    have ih2 := fun vn w h => ih (v + 1) (x + 2 ^ v) (bldK (fun j => tb.getD j false) d (v + 1) x Ks).1 vn w h (by omega) hx2 (by omega)
    obtain ⟨r1, hr1⟩ : ∃ r, r = bldK (fun j => tb.getD j false) d (v + 1) x Ks := ⟨_, rfl⟩
    rw [← hr1] at hl1 hl2 i1 i2 he ih1 ih2
    obtain ⟨r2, hr2⟩ : ∃ r, r = bldK (fun j => tb.getD j false) d (v + 1) (x + 2 ^ v) r1.1 := ⟨_, rfl⟩
    rw [← hr2] at hl2 i2 he ih2
    rw [he]
    obtain ⟨K1, lo⟩ := r1
    obtain ⟨K2, hi⟩ := r2
    simp only at hl1 hl2 i1 i2 ih1 ih2 ⊢
    have ev : (((v + 1 : Nat)) : Int) = (v : Int) + 1 := by omega
    rw [ev] at ih1 ih2
    have ev2 : (((x + 2 ^ v : Nat)) : Int) = (x : Int) + 2 ^ v := by simp
    rw [ev2] at hor ih2
    have K1l : K1.length ≤ 1000 := by omega
    have K2l : K2.length ≤ 1000 := by omega
    obtain ⟨lo0, lo1⟩ := i1
    obtain ⟨hi0, hi1⟩ := i2
    have lo2 : lo ≤ 2000 := by omega
    have hi2 : hi ≤ 2000 := by omega
    have HI1 := Lib.hid ih1
    have HI2 := Lib.hid ih2
    have cb := (blk_all h.blk).1
    clear h ih ih1 ih2 he hr1 hr2 hl1 hl2 lo1 hi1 hx1 hx2 hl htb ev ev2 hs hv hx
    go_enter Try.func56, Try.ntmps56
    go_upto_region 6 with (go_at_call 56; ((with_reducible refine (HI1.out _ H.out).mono ?_); rintro e w1 ⟨vn1, rfl, h1⟩; have H1 := Lib.hid h1; clear h1 cb))
    go_upto_region 7 with (go_at_call 56; ((with_reducible refine (HI2.out _ _ H1.out).mono ?_); rintro e w2 ⟨vn2, rfl, h2⟩; have H2 := Lib.hid h2; clear h2))
    clear H1
    by_cases hlh : lo = hi
    · subst hlh
      go_wp2_with fail
      go_ret
      exact ⟨vn2, by rw [mkK_eq rfl]; rfl, by rw [mkK_eq rfl]; exact H2.out⟩
    · obtain ⟨s2, c2, rfl⟩ := H2.out.shape
      have hne : (lo == hi) = false := beq_eq_false_iff_ne.2 hlh
      go_upto_region 10 with fail
      obtain ⟨p, hp⟩ : ∃ p, p = w2.heap.size := ⟨_, rfl⟩
      have hk := blk_new w2 (.cells #[.int .i64 (v : Int), .int .i64 lo, .int .i64 hi] 76)
      have h3 := H2.out.below ((Below.refl w2.heap.size w2).alloc (Nat.le_refl _) (.cells #[.int .i64 (v : Int), .int .i64 lo, .int .i64 hi] 76))
      have hbp : b < p := by rw [hp]; exact blk_lt H2.out.blk
      have hmp : mb < p := by rw [hp]; exact H2.out.map.lt
      have HVP : Hid (∀ k, (Value.slice s2 (K2.length + 2) c2).ownBlock = some k → k < p) := fun k hk => by rw [hp]; exact (own_blk H2.out.own hk).2
      rw [← hp] at hk
      rw [← hp]
      clear hp H2
      revert hk h3
      generalize w2.alloc (.cells #[.int .i64 (v : Int), .int .i64 lo, .int .i64 hi] 76) = W3
      intro hk h3
      have H3 := Lib.hid (And.intro h3 hk)
      clear h3 hk
      have hd3 : Below W3.heap.size W3 W3.drew := (Below.refl _ _).drew
      have H5 := Lib.hid (And.intro (H3.out.1.below hd3) (blk_below hd3 (blk_lt H3.out.2) H3.out.2))
      clear H3 hd3
      refine wp_region_T (fun w' => (∀ o, w'.cell? ⟨b, o, none⟩ = #[Value.slice st tb.length ct, .int .i64 n, .slice s2 (K2.length + 2) c2, .map (some mb)][o]?) ∧ (∀ o, w'.cell? ⟨p, o, none⟩ = #[Value.int .i64 (v : Int), .int .i64 lo, .int .i64 hi][o]?)) (.q 0 (.q 1 (.q 2 (.q 3 (.q 4 (.e 5 (.q 6 (.q 7 (.q 8 (.q 9 (.q 10 .nil))))))))))) (by kernel_rfl) (by kernel_rfl) (by kernel_rfl) ⟨(blk_all H5.out.1.blk).1, (blk_all H5.out.2).1⟩ ?_
      generalize W3.drew = W5 at H5 ⊢
      have hlk := mapn_lookup H5.out.1.map ⟨(v : Int), lo, hi⟩
      unfold Nd.agg at hlk
      dsimp only at hlk
      cases hf : fdK K2 ⟨(v : Int), lo, hi⟩ with
      | some i =>
        have HF := Lib.hid hf
        have hil := fdK_lt hf
        rw [hf] at hlk
        dsimp only at hlk
        clear hf
        repeat (first | (refine ordt_s (o := ?_) ?_ ?_ ?_; rotate_left 1; (focus ((simp only [List.getElem?_toArray, List.getElem?_cons_succ, List.getElem?_cons_zero]) <;> rfl)); (focus rfl); simp only [Act.put, List.setIfInBounds_toArray, List.set_cons_zero, List.set_cons_succ]) | (refine ordt_q (o := ?_) (v := ?_) ?_ ?_ ?_ ?_; rotate_left 2; (focus ((simp only [List.getElem?_toArray, List.getElem?_cons_succ, List.getElem?_cons_zero]) <;> rfl)); (focus rfl); (focus (intro w' hS; (try dsimp only at hS); go_split_ands; go_simp; (try (with_reducible rfl)))); simp only [Act.put, List.setIfInBounds_toArray, List.set_cons_zero, List.set_cons_succ]))
        refine ordt_e ?_
        (refine op_e (o := ?_) ?_ ?_ (fun K hK => ?_); rotate_left 1; (focus ((simp only [List.getElem?_toArray, List.getElem?_cons_succ, List.getElem?_cons_zero]) <;> rfl)); (focus rfl); go_simp)
        refine hK.out _ _ ⟨(blk_all H5.out.1.blk).1, (blk_all H5.out.2).1⟩ ?_
        clear hK K
        (try simp only [Act.put, List.setIfInBounds_toArray, List.set_cons_zero, List.set_cons_succ])
        repeat (first | (refine ordt_s (o := ?_) ?_ ?_ ?_; rotate_left 1; (focus ((simp only [List.getElem?_toArray, List.getElem?_cons_succ, List.getElem?_cons_zero]) <;> rfl)); (focus rfl); simp only [Act.put, List.setIfInBounds_toArray, List.set_cons_zero, List.set_cons_succ]) | (refine ordt_q (o := ?_) (v := ?_) ?_ ?_ ?_ ?_; rotate_left 2; (focus ((simp only [List.getElem?_toArray, List.getElem?_cons_succ, List.getElem?_cons_zero]) <;> rfl)); (focus rfl); (focus (intro w' hS; (try dsimp only at hS); go_split_ands; go_simp; (try (with_reducible rfl)))); simp only [Act.put, List.setIfInBounds_toArray, List.set_cons_zero, List.set_cons_succ]))
        refine ordt_nil ?_
        go_wp2_with fail
        go_ret
        exact ⟨_, by rw [mkK_old hlh HF.out]; rfl, by rw [mkK_old hlh HF.out]; exact H5.out.1⟩
      | none =>
        have HF := Lib.hid hf
        rw [hf] at hlk
        dsimp only at hlk
        clear hf
        repeat (first | (refine ordt_s (o := ?_) ?_ ?_ ?_; rotate_left 1; (focus ((simp only [List.getElem?_toArray, List.getElem?_cons_succ, List.getElem?_cons_zero]) <;> rfl)); (focus rfl); simp only [Act.put, List.setIfInBounds_toArray, List.set_cons_zero, List.set_cons_succ]) | (refine ordt_q (o := ?_) (v := ?_) ?_ ?_ ?_ ?_; rotate_left 2; (focus ((simp only [List.getElem?_toArray, List.getElem?_cons_succ, List.getElem?_cons_zero]) <;> rfl)); (focus rfl); (focus (intro w' hS; (try dsimp only at hS); go_split_ands; go_simp; (try (with_reducible rfl)))); simp only [Act.put, List.setIfInBounds_toArray, List.set_cons_zero, List.set_cons_succ]))
        refine ordt_e ?_
        (refine op_e (o := ?_) ?_ ?_ (fun K hK => ?_); rotate_left 1; (focus ((simp only [List.getElem?_toArray, List.getElem?_cons_succ, List.getElem?_cons_zero]) <;> rfl)); (focus rfl); go_simp)
        refine hK.out _ _ ⟨(blk_all H5.out.1.blk).1, (blk_all H5.out.2).1⟩ ?_
        clear hK K
        (try simp only [Act.put, List.setIfInBounds_toArray, List.set_cons_zero, List.set_cons_succ])
        repeat (first | (refine ordt_s (o := ?_) ?_ ?_ ?_; rotate_left 1; (focus ((simp only [List.getElem?_toArray, List.getElem?_cons_succ, List.getElem?_cons_zero]) <;> rfl)); (focus rfl); simp only [Act.put, List.setIfInBounds_toArray, List.set_cons_zero, List.set_cons_succ]) | (refine ordt_q (o := ?_) (v := ?_) ?_ ?_ ?_ ?_; rotate_left 2; (focus ((simp only [List.getElem?_toArray, List.getElem?_cons_succ, List.getElem?_cons_zero]) <;> rfl)); (focus rfl); (focus (intro w' hS; (try dsimp only at hS); go_split_ands; go_simp; (try (with_reducible rfl)))); simp only [Act.put, List.setIfInBounds_toArray, List.set_cons_zero, List.set_cons_succ]))
        refine ordt_nil ?_
        have cb := (blk_all H5.out.1.blk).1
        go_upto_region 13 with fail
        clear cb
        have hd3 : Below W5.heap.size W5 W5.drew := (Below.refl _ _).drew
        have H6 := Lib.hid (And.intro (H5.out.1.below hd3) (blk_below hd3 (blk_lt H5.out.2) H5.out.2))
        clear H5 hd3
        refine wp_region_T (fun w' => (∀ o, w'.cell? ⟨b, o, none⟩ = #[Value.slice st tb.length ct, .int .i64 n, .slice s2 (K2.length + 2) c2, .map (some mb)][o]?) ∧ (∀ o, w'.cell? ⟨p, o, none⟩ = #[Value.int .i64 (v : Int), .int .i64 lo, .int .i64 hi][o]?)) (.q 0 (.q 1 (.q 2 (.q 3 (.q 4 (.q 5 (.e 6 .nil))))))) (by kernel_rfl) (by kernel_rfl) (by kernel_rfl) ⟨(blk_all H6.out.1.blk).1, (blk_all H6.out.2).1⟩ ?_
        generalize W5.drew = W6 at H6 ⊢
        obtain ⟨W7, hrun, hmap, hgr, hsz⟩ := mapn_update H6.out.1.map ⟨(v : Int), lo, hi⟩ HF.out
        unfold Nd.agg at hrun
        dsimp only at hrun
        rw [show (((K2.length + 2 : Nat)) : Int) = (K2.length : Int) + 2 from by omega] at hrun
        obtain ⟨g1, g2, g3, g4⟩ := H6.out.1.put hgr
        have gp : W7.heap[p]? = some (.cells #[.int .i64 (v : Int), .int .i64 lo, .int .i64 hi] 76 (0, 0)) := by
          rw [hgr.block p (blk_lt H6.out.2) (by simp; omega)]; exact H6.out.2
        have H7 := Lib.hid (And.intro g1 (And.intro g2 (And.intro g3 (And.intro g4 (And.intro gp hmap)))))
        have hB := H6.out.1.hb
        have hM := H6.out.1.hm
        clear g1 g2 g3 g4 gp hmap hgr hsz H6
        repeat (first | (refine ordt_s (o := ?_) ?_ ?_ ?_; rotate_left 1; (focus ((simp only [List.getElem?_toArray, List.getElem?_cons_succ, List.getElem?_cons_zero]) <;> rfl)); (focus rfl); simp only [Act.put, List.setIfInBounds_toArray, List.set_cons_zero, List.set_cons_succ]) | (refine ordt_q (o := ?_) (v := ?_) ?_ ?_ ?_ ?_; rotate_left 2; (focus ((simp only [List.getElem?_toArray, List.getElem?_cons_succ, List.getElem?_cons_zero]) <;> rfl)); (focus rfl); (focus (intro w' hS; (try dsimp only at hS); go_split_ands; go_simp; (try (with_reducible rfl)))); simp only [Act.put, List.setIfInBounds_toArray, List.set_cons_zero, List.set_cons_succ]))
        refine ordt_e ?_
        (refine op_e (o := ?_) ?_ ?_ (fun K hK => ?_); rotate_left 1; (focus ((simp only [List.getElem?_toArray, List.getElem?_cons_succ, List.getElem?_cons_zero]) <;> rfl)); (focus rfl); go_simp)
        refine hK.out _ _ ⟨(blk_all H7.out.1).1, (blk_all H7.out.2.2.2.2.1).1⟩ ?_
        clear hK K hrun hlk
        (try simp only [Act.put, List.setIfInBounds_toArray, List.set_cons_zero, List.set_cons_succ])
        repeat (first | (refine ordt_s (o := ?_) ?_ ?_ ?_; rotate_left 1; (focus ((simp only [List.getElem?_toArray, List.getElem?_cons_succ, List.getElem?_cons_zero]) <;> rfl)); (focus rfl); simp only [Act.put, List.setIfInBounds_toArray, List.set_cons_zero, List.set_cons_succ]) | (refine ordt_q (o := ?_) (v := ?_) ?_ ?_ ?_ ?_; rotate_left 2; (focus ((simp only [List.getElem?_toArray, List.getElem?_cons_succ, List.getElem?_cons_zero]) <;> rfl)); (focus rfl); (focus (intro w' hS; (try dsimp only at hS); go_split_ands; go_simp; (try (with_reducible rfl)))); simp only [Act.put, List.setIfInBounds_toArray, List.set_cons_zero, List.set_cons_succ]))
        refine ordt_nil ?_
        go_upto_region 14 with fail
        have hd3 : Below W7.heap.size W7 W7.drew := (Below.refl _ _).drew
        have hb7 := H7.out.2.2.2.1.size
        have H8 : Hid (W7.drew.heap = W7.heap ∧ W0.heap.size ≤ W7.drew.heap.size ∧ Below W0.heap.size W0 W7.drew ∧ MapN W7.drew mb (K2 ++ [⟨(v : Int), lo, hi⟩]) ∧ W7.drew.ownsRow W0.heap.size 4 1 (.slice st tb.length ct) tb.length (bools tb) ∧ W7.drew.ownsRow W0.heap.size 76 3 (.slice s2 (K2.length + 2) c2) (K2.length + 2) (ncells (zz K2)) ∧ W7.drew.heap[b]? = some (.cells #[.slice st tb.length ct, .int .i64 n, .slice s2 (K2.length + 2) c2, .map (some mb)] 73 (0, 0)) ∧ W7.drew.heap[p]? = some (.cells #[.int .i64 (v : Int), .int .i64 lo, .int .i64 hi] 76 (0, 0))) :=
          ⟨rfl, hb7, H7.out.2.2.2.1.drew, H7.out.2.2.2.2.2.below hd3, own_below H7.out.2.2.1 hd3, own_below H7.out.2.1 hd3, blk_below hd3 (blk_lt H7.out.1) H7.out.1, blk_below hd3 (blk_lt H7.out.2.2.2.2.1) H7.out.2.2.2.2.1⟩
        clear hd3 H7
        refine wp_region_E (fun w' => (∀ o, w'.cell? ⟨b, o, none⟩ = #[Value.slice st tb.length ct, .int .i64 n, .slice s2 (K2.length + 2) c2, .map (some mb)][o]?) ∧ (∀ o, w'.cell? ⟨p, o, none⟩ = #[Value.int .i64 (v : Int), .int .i64 lo, .int .i64 hi][o]?)) 10 (.q 0 (.q 1 (.q 2 (.q 3 (.q 4 (.q 5 (.e 6 (.e 7 (.q 8 (.q 9 (.z 10))))))))))) (by kernel_rfl) (by kernel_rfl) (by kernel_rfl) (by kernel_rfl) (by kernel_rfl) (by kernel_rfl) ⟨(blk_all H8.out.2.2.2.2.2.2.1).1, (blk_all H8.out.2.2.2.2.2.2.2).1⟩ ?_
        generalize W7.drew = W8 at H8 ⊢
        repeat (first | (refine orde_s (o := ?_) ?_ ?_ ?_; rotate_left 1; (focus ((simp only [List.getElem?_toArray, List.getElem?_cons_succ, List.getElem?_cons_zero]) <;> rfl)); (focus rfl); simp only [Act.put, List.setIfInBounds_toArray, List.set_cons_zero, List.set_cons_succ]) | (refine orde_q (o := ?_) (v := ?_) ?_ ?_ ?_ ?_; rotate_left 2; (focus ((simp only [List.getElem?_toArray, List.getElem?_cons_succ, List.getElem?_cons_zero]) <;> rfl)); (focus rfl); (focus (intro w' hS; (try dsimp only at hS); go_split_ands; go_simp; (try (with_reducible rfl)))); simp only [Act.put, List.setIfInBounds_toArray, List.set_cons_zero, List.set_cons_succ]))
        refine orde_e ?_
        (refine ope_e (o := ?_) ?_ ?_ (fun K hK => ?_); rotate_left 1; (focus ((simp only [List.getElem?_toArray, List.getElem?_cons_succ, List.getElem?_cons_zero]) <;> rfl)); (focus rfl); go_simp)
        have hba := (Below.refl W8.heap.size W8).alloc (Nat.le_refl _) (.cells #[.int .i64 (v : Int), .int .i64 lo, .int .i64 hi] 76)
        have hs := Sl.new W8 #[.int .i64 (v : Int), .int .i64 lo, .int .i64 hi] 76
        have hsz := hba.size
        have H9 := Lib.hid (And.intro hs (And.intro (H8.out.2.2.1.trans (hba.mono H8.out.2.1)) (And.intro (H8.out.2.2.2.1.below hba) (And.intro (own_below H8.out.2.2.2.2.1 hba) (And.intro (own_below H8.out.2.2.2.2.2.1 hba) (And.intro (blk_below hba (blk_lt H8.out.2.2.2.2.2.2.1) H8.out.2.2.2.2.2.2.1) (blk_below hba (blk_lt H8.out.2.2.2.2.2.2.2) H8.out.2.2.2.2.2.2.2)))))))
        clear hba hs hsz H8
        revert H9
        generalize W8.alloc (.cells #[.int .i64 (v : Int), .int .i64 lo, .int .i64 hi] 76) = W9
        intro H9
        refine hK.out _ _ ⟨(blk_all H9.out.2.2.2.2.2.1).1, (blk_all H9.out.2.2.2.2.2.2).1⟩ ?_
        clear hK K
        (try simp only [Act.put, List.setIfInBounds_toArray, List.set_cons_zero, List.set_cons_succ])
        refine orde_e ?_
        (refine ope_e (o := ?_) ?_ ?_ (fun K hK => ?_); rotate_left 1; (focus ((simp only [List.getElem?_toArray, List.getElem?_cons_succ, List.getElem?_cons_zero]) <;> rfl)); (focus rfl))
        refine wp_app (.tmp 72) (.tmp 74) rfl elem_node H9.out.2.2.2.2.1 rfl rfl (by simp) H9.out.1 (by simp [Value.oneCell']) (K2.length + 2 + 1) rfl (ncells (zz (K2 ++ [⟨(v : Int), lo, hi⟩]))) (by rw [zz_app, ← ncells_append]; rfl) (by unfold maxLen; omega) (by omega) H9.out.2.1.size ?_
        intro s6 c6 W2' h6 hb6 hg6 hob6
        obtain ⟨g1, g2⟩ := BM.grow (K' := K2 ++ [⟨(v : Int), lo, hi⟩]) (v6 := .slice s6 (K2.length + 2 + 1) c6) H9.out.2.2.2.2.2.1 H9.out.2.2.2.2.1 H9.out.2.2.2.1 H9.out.2.2.1 H9.out.2.1 hB hM (by simpa [Nat.add_right_comm] using h6) hg6 hob6
        have hp2 : W2'.heap[p]? = some (.cells #[.int .i64 (v : Int), .int .i64 lo, .int .i64 hi] 76 (0, 0)) := by
          rw [hg6.block p (blk_lt H9.out.2.2.2.2.2.2) (fun e => by have := HVP.out _ e.symm; omega)]; exact H9.out.2.2.2.2.2.2
        refine hK.out _ _ ⟨(blk_all g1).1, (blk_all hp2).1⟩ ?_
        clear hK K
        have y1 : W2'.cell? ⟨b, 2, none⟩ = some (.slice s2 (K2.length + 2) c2) := blk_cell g1
        have y2 : W2'.frozen? ⟨b, 2, none⟩ = false := blk_free g1
        have HZ := Lib.hid g2
        clear g1 g2 hp2 h6 hb6 hg6 hob6
        (try simp only [Act.put, List.setIfInBounds_toArray, List.set_cons_zero, List.set_cons_succ])
        repeat (first | (refine orde_s (o := ?_) ?_ ?_ ?_; rotate_left 1; (focus ((simp only [List.getElem?_toArray, List.getElem?_cons_succ, List.getElem?_cons_zero]) <;> rfl)); (focus rfl); simp only [Act.put, List.setIfInBounds_toArray, List.set_cons_zero, List.set_cons_succ]) | (refine orde_q (o := ?_) (v := ?_) ?_ ?_ ?_ ?_; rotate_left 2; (focus ((simp only [List.getElem?_toArray, List.getElem?_cons_succ, List.getElem?_cons_zero]) <;> rfl)); (focus rfl); (focus (intro w' hS; (try dsimp only at hS); go_split_ands; go_simp; (try (with_reducible rfl)))); simp only [Act.put, List.setIfInBounds_toArray, List.set_cons_zero, List.set_cons_succ]))
        (refine orde_z (o := ?_) ?_ ?_ (fun K hK => ?_); rotate_left 1; (focus ((simp only [List.getElem?_toArray, List.getElem?_cons_succ, List.getElem?_cons_zero]) <;> rfl)); (focus rfl); go_simp)
        refine hK.out _ _ ?_
        clear hK K y1 y2
        go_wp2_with fail
        go_ret
        exact ⟨_, by rw [mkK_new hlh HF.out]; exact ret_int (by simp), by rw [mkK_new hlh HF.out]; exact HZ.out⟩

end Go.Proofs.Ytjggcojbgkpooaa
