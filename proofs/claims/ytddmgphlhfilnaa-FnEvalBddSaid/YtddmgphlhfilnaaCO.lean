import Derived.Test.YtddmgphlhfilnaaCN
import Derived.Test.YtddmgphlhfilnaaBJ
namespace Go.Proofs.Ytddmgphlhfilnaa
set_option linter.unusedVariables false
set_option linter.unusedSimpArgs false
open Go.RowKit

/-! A diagram is drawn. -/

structure BT (R : Nat) (s : Option Addr) (c : Nat) (xs : List Int) (w0 : World) (NB : Nat) (root : Int) (nd : List Nd) (vs : Value) (p : Nat) (w : World) : Prop where
  blk : w.heap[NB]? = some (.cells #[vs, .int .i64 root] 25 (0, 0))
  own : w.ownsRow w0.heap.size 29 3 vs nd.length (ncells nd)
  rd : Rd w R s c xs p
  kp : Kp R w0.heap.size w0 w
  hR : R < w0.heap.size
  hB : w0.heap.size ≤ NB

theorem BT.upd {R : Nat} {s : Option Addr} {c : Nat} {xs : List Int} {w0 : World} {NB : Nat} {root : Int} {nd : List Nd} {vs : Value} {p : Nat} {w1 : World} {p2 : Nat} {w2 : World} (h : BT R s c xs w0 NB root nd vs p w1) (hr : Rd w2 R s c xs p2) (hu : Upd R w1 w2) : BT R s c xs w0 NB root nd vs p2 w2 := by
  have h1 := h.hR; have h2 := h.hB; have h3 := blk_lt h.blk
  have k : Kp R w1.heap.size w1 w2 := Kp.of_upd hu (Nat.le_refl _)
  exact ⟨by rw [hu.block NB h3 (by simp; omega)]; exact h.blk, own_kp h.own h1 (fun k e => (own_blk h.own e).2) k, hr, h.kp.trans (k.mono (h.kp.size)), h1, h2⟩
theorem BT.below {R : Nat} {s : Option Addr} {c : Nat} {xs : List Int} {w0 : World} {NB : Nat} {root : Int} {nd : List Nd} {vs : Value} {p : Nat} {w1 : World} {w2 : World} (h : BT R s c xs w0 NB root nd vs p w1) (hb : Below w1.heap.size w1 w2) : BT R s c xs w0 NB root nd vs p w2 :=
  h.upd (h.rd.mono hb) (Upd.of_below hb)
theorem BT.alloc {R : Nat} {s : Option Addr} {c : Nat} {xs : List Int} {w0 : World} {NB : Nat} {root : Int} {nd : List Nd} {vs : Value} {p : Nat} {w1 : World} (h : BT R s c xs w0 NB root nd vs p w1) (o : Obj) : BT R s c xs w0 NB root nd vs p (w1.alloc o) :=
  h.below ((Below.refl _ _).alloc (Nat.le_refl _) _)
theorem BT.drew {R : Nat} {s : Option Addr} {c : Nat} {xs : List Int} {w0 : World} {NB : Nat} {root : Int} {nd : List Nd} {vs : Value} {p : Nat} {w1 : World} (h : BT R s c xs w0 NB root nd vs p w1) : BT R s c xs w0 NB root nd vs p w1.drew :=
  h.below (Below.refl _ _).drew
theorem BT.cells {R : Nat} {s : Option Addr} {c : Nat} {xs : List Int} {w0 : World} {NB : Nat} {root : Int} {nd : List Nd} {vs : Value} {p : Nat} {w1 : World} (h : BT R s c xs w0 NB root nd vs p w1) : (∀ o, w1.cell? ⟨NB, o, none⟩ = #[vs, .int .i64 root][o]?) ∧ ∀ o, w1.frozen? ⟨NB, o, none⟩ = false := blk_all h.blk
theorem BT.sz {R : Nat} {s : Option Addr} {c : Nat} {xs : List Int} {w0 : World} {NB : Nat} {root : Int} {nd : List Nd} {vs : Value} {p : Nat} {w1 : World} (h : BT R s c xs w0 NB root nd vs p w1) : w0.heap.size ≤ w1.heap.size := h.kp.size

def PkB (R : Nat) (s : Option Addr) (c : Nat) (xs : List Int) (w0 : World) (NB : Nat) (root : Int) (nd : List Nd) (vs : Value) (p : Nat) (n : Int) (w1 : World) (e : Ending) (w' : World) : Prop :=
  ∃ k : Nat, e = .returned (.int .i64 k) ∧ Picked n k ∧ BT R s c xs w0 NB root nd vs (p + 1) w' ∧ Upd R w1 w' ∧ w'.heap.size = w1.heap.size
theorem pick_bt (R : Nat) (s : Option Addr) (c : Nat) (xs : List Int) (w0 : World) (NB : Nat) (root : Int) (nd : List Nd) (vs : Value) (p : Nat) (n : Int) (w1 : World) (h : BT R s c xs w0 NB root nd vs p w1) (hp : p ≤ 1000000000) (hn : n ≤ 1000000) :
    Calls Try.prog 58 #[.pointer (some ⟨R, 0, none⟩), .int .i64 n] w1 (PkB R s c xs w0 NB root nd vs p n w1) :=
  (pick_any _ _ _ _ _ _ _ h.rd (by omega) (by omega)).mono fun _ _ ⟨k, h1, h2, h3, h4, h5⟩ => by
    obtain ⟨m, rfl⟩ : ∃ m : Nat, k = m := ⟨k.toNat, by have := h2.1; omega⟩
    exact ⟨m, h1, h2, h.upd h3 h4, h4, h5⟩
theorem odd_bt (R : Nat) (s : Option Addr) (c : Nat) (xs : List Int) (w0 : World) (NB : Nat) (root : Int) (nd : List Nd) (vs : Value) (p : Nat) (n : Int) (w1 : World) (h : BT R s c xs w0 NB root nd vs p w1) (hp : p ≤ 1000000000) (hn0 : -1000 ≤ n) (hn : n ≤ 1000000000) :
    Calls Try.prog 86 #[.pointer (some ⟨R, 0, none⟩), .int .i64 n] w1 fun e w' => ∃ (k : Bool) (p' : Nat), e = .returned (.bool k) ∧ p' ≤ p + 1 ∧ BT R s c xs w0 NB root nd vs p' w' :=
  (odd_any _ _ _ _ _ _ _ h.rd (by omega) hn0 hn).mono fun _ _ ⟨k, p', h1, h2, h3, h4, _⟩ => ⟨k, p', h1, h2, h.upd h3 h4⟩

/-- What l20Bdd leaves. -/
def BkPost (R : Nat) (s : Option Addr) (c : Nat) (xs : List Int) (p : Nat) (w : World) (e : Ending) (w' : World) : Prop :=
  ∃ (d : Bd) (sb : Option Addr) (kb p' : Nat), e = .returned (.agg #[.slice sb d.nodes.length kb, .int .i64 d.root]) ∧ w'.ownsRow w.heap.size 29 3 (.slice sb d.nodes.length kb) d.nodes.length (ncells d.nodes) ∧ d.nodes.length ≤ 300 ∧ (-1 ≤ d.root ∧ d.root ≤ 300) ∧ Rd w' R s c xs p' ∧ p' ≤ p + 2000 ∧ Kp R w.heap.size w w'

theorem bdR_two {C : Cir} {l : Int} (h : tsOk C l) : 2 ≤ (bdR C l).nodes.length := by
  rw [bdR_yes h]; unfold bdK; show 2 ≤ (zz _).length; rw [zz_length]; omega
theorem BT.mk0 {R : Nat} {s : Option Addr} {c : Nat} {xs : List Int} {w0 w1 : World} {NB b : Nat} {root : Int} {nd : List Nd} {vs : Value} {p : Nat} (h0 : w1.heap[NB]? = some (.cells #[.slice none 0 0, .int .i64 0] 25 (0, 0))) (ho : w1.ownsRow b 29 3 vs nd.length (ncells nd)) (hb : w0.heap.size ≤ b) (hr : Rd w1 R s c xs p) (hk : Kp R w0.heap.size w0 w1) (hR : R < w0.heap.size) (hB : w0.heap.size ≤ NB) :
    BT R s c xs w0 NB root nd vs p ((w1.setCell ⟨NB, 0, none⟩ vs).setCell ⟨NB, 1, none⟩ (.int .i64 root)) := by
  have hbl := ((Below.refl w0.heap.size w1).setCell (p := ⟨NB, 0, none⟩) hB vs).setCell (p := ⟨NB, 1, none⟩) hB (.int .i64 root)
  refine ⟨by simpa using blk_set (o := 1) (v := .int .i64 root) (blk_set (o := 0) (v := vs) h0), ?_, hr.grown hbl hR, hk.trans (Kp.of_below hbl), hR, hB⟩
  exact own_base (own_set_ne (own_set_ne ho (own_tyb ho h0 (by decide)) _) (own_tyb ho h0 (by decide)) _) hb

theorem own_take1 {w : World} {base : Nat} {e : TypeId} {size n c : Nat} {s : Option Addr} {xs : List Value} (h : w.ownsRow base e size (.slice s n c) n xs) (hn : 1 ≤ n) : w.ownsRow base e size (.slice s 1 c) 1 (xs.take size) := by
  have hle : n * 1 ≤ n := by omega
  obtain ⟨h1, h2⟩ := h
  have hsz : size ≤ n * size := Nat.le_mul_of_pos_left _ hn
  refine ⟨by rw [List.length_take, h1]; simp; omega, ?_⟩
  rcases h2 with ⟨h3, h4⟩ | ⟨g, cap, cur, h3, hb, hg, hl, hm, hs, ht⟩
  · simp at h3; omega
  · simp only [Value.slice.injEq] at h3
    obtain ⟨rfl, -, rfl⟩ := h3
    exact .inr ⟨g, c, cur, rfl, hb, hg, by omega, hm, hs, by rw [← ht, List.take_take]; congr 1; simp; omega⟩
theorem BT.ret {R : Nat} {s : Option Addr} {c : Nat} {xs : List Int} {w W0 : World} {NB : Nat} {root : Int} {nd : List Nd} {sb : Option Addr} {cb p p0 : Nat} {w1 : World} {a : Act} {N : Nat} (h : BT R s c xs W0 NB root nd (.slice sb N cb) p w1) (hW : W0 = w.alloc (.cells #[.slice none 0 0, .int .i64 0] 25))
    (hR : R < w.heap.size) (hN : nd.length = N) (hl : nd.length ≤ 300) (hrt : -1 ≤ root ∧ root ≤ 300) (hp : p ≤ p0 + 2000) (ha : a.tmps.getD 4 undef = .pointer (some ⟨w.heap.size, 0, none⟩)) (hd : a.defers = []) :
    bodyPost Try.prog Try.f55 (BkPost R s c xs p0 w) .ret a ((w1.setCell ⟨w.heap.size, 0, none⟩ (.slice sb N cb)).setCell ⟨w.heap.size, 1, none⟩ (.int .i64 root)) := by
  subst hW
  subst hN
  have hs0 : (w.alloc (.cells #[.slice none 0 0, .int .i64 0] 25)).heap.size = w.heap.size + 1 := by simp
  have hRB : w1.heap[w.heap.size]? = some (.cells #[.slice none 0 0, .int .i64 0] 25 (0, 0)) := by
    rw [h.kp.block _ (by simp) (by omega)]; exact blk_new _ _
  have hZ : ((w1.setCell ⟨w.heap.size, 0, none⟩ (.slice sb nd.length cb)).setCell ⟨w.heap.size, 1, none⟩ (.int .i64 root)).heap[w.heap.size]? = some (.cells #[.slice sb nd.length cb, .int .i64 root] 25 (0, 0)) := by
    simpa using blk_set (o := 1) (v := .int .i64 root) (blk_set (o := 0) (v := .slice sb nd.length cb) hRB)
  have hown := own_set_ne (own_set_ne (b := w.heap.size) (o := 0) h.own (by intro e; have := (own_blk h.own e).1; omega) (.slice sb nd.length cb)) (b := w.heap.size) (o := 1) (by intro e; have := (own_blk h.own e).1; omega) (.int .i64 root)
  have hB := ((Below.refl w.heap.size w1).setCell (p := ⟨w.heap.size, 0, none⟩) (by simp) (.slice sb nd.length cb)).setCell (p := ⟨w.heap.size, 1, none⟩) (by simp) (.int .i64 root)
  have hk0 : Kp R w.heap.size w w1 := (Kp.of_below ((Below.refl _ _).alloc (Nat.le_refl _) _)).trans (h.kp.mono (by omega))
  have hrd := h.rd.grown hB hR
  have hk := hk0.trans (Kp.of_below hB)
  revert hZ hown hrd hk
  generalize ((w1.setCell ⟨w.heap.size, 0, none⟩ (.slice sb nd.length cb)).setCell ⟨w.heap.size, 1, none⟩ (.int .i64 root)) = WZ
  intro hZ hown hrd hk
  have cr := (blk_all hZ).1
  have ha' : a.tmps[4]?.getD undef = .pointer (some ⟨w.heap.size, 0, none⟩) := by simpa using ha
  exact bodyPost_ret (v := .agg #[.slice sb nd.length cb, .int .i64 root]) (by simp [results, Try.results55, go_sem, cr, ha']) hd ⟨⟨nd, root⟩, sb, cb, p, rfl, own_base hown (by omega), hl, hrt, hrd, hp, hk⟩
theorem BT.res {R : Nat} {s : Option Addr} {c : Nat} {xs : List Int} {w W0 : World} {NB : Nat} {root : Int} {nd : List Nd} {vs : Value} {p : Nat} {w1 : World} (h : BT R s c xs W0 NB root nd vs p w1) (hW : W0 = w.alloc (.cells #[.slice none 0 0, .int .i64 0] 25)) (hR : R < w.heap.size) :
    (∀ o, w1.cell? ⟨w.heap.size, o, none⟩ = (#[.slice none 0 0, .int .i64 0])[o]?) ∧ ∀ o, w1.frozen? ⟨w.heap.size, o, none⟩ = false := by
  subst hW
  have hRB : w1.heap[w.heap.size]? = some (.cells #[.slice none 0 0, .int .i64 0] 25 (0, 0)) := by
    rw [h.kp.block _ (by simp) (by omega)]; exact blk_new _ _
  exact blk_all hRB
theorem BT.push {R : Nat} {s : Option Addr} {c : Nat} {xs : List Int} {w0 : World} {NB : Nat} {root : Int} {nd : List Nd} {vs : Value} {p : Nat} {w1 : World} {w2 : World} (h : BT R s c xs w0 NB root nd vs p w1) {s' : Option Addr} {N c' : Nat} {g : Nd} (ho : w2.ownsRow w0.heap.size 29 3 (.slice s' N c') N (ncells nd ++ [.int .i64 g.v, .int .i64 g.lo, .int .i64 g.hi])) (hN : N = nd.length + 1) (hg : w1.grownBy w2 vs.ownBlock) :
    w2.heap[NB]? = some (.cells #[vs, .int .i64 root] 25 (0, 0)) ∧ ∃ nd', nd'.length = N ∧ BT R s c xs w0 NB root nd' (.slice s' N c') p (w2.setCell ⟨NB, 0, none⟩ (.slice s' N c')) := by
  have hB0 : w2.heap[NB]? = some (.cells #[vs, .int .i64 root] 25 (0, 0)) := by
    rw [hg.block NB (blk_lt h.blk) (fun e => own_tyb h.own h.blk (by decide) e.symm)]; exact h.blk
  have hb2 : Below w0.heap.size w1 w2 := (Below.refl _ _).grown hg h.sz (fun q e => (own_blk h.own e).1)
  have hbl := hb2.setCell (p := ⟨NB, 0, none⟩) h.hB (.slice s' N c')
  have e : (nd ++ [g]).length = N := by simp [hN]
  refine ⟨hB0, nd ++ [g], e, ⟨by simpa using blk_set (o := 0) (v := .slice s' N c') hB0, own_set_ne (by rw [e, ← ncells_append]; exact ho) (own_tyb ho hB0 (by decide)) _, h.rd.grown hbl h.hR, h.kp.trans (Kp.of_below hbl), h.hR, h.hB⟩⟩
theorem own_cut {w : World} {base : Nat} {s : Option Addr} {c : Nat} {nd : List Nd} (h : w.ownsRow base 29 3 (.slice s nd.length c) nd.length (ncells nd)) (hn : 1 ≤ nd.length) : ∃ nd' : List Nd, nd'.length = 1 ∧ w.ownsRow base 29 3 (.slice s 1 c) nd'.length (ncells nd') := by
  cases nd with
  | nil => simp at hn
  | cons x xs => exact ⟨[x], rfl, by have := own_take1 h hn; simpa [ncells, Nd.cells] using this⟩
theorem own_var1 {w : World} {base : Nat} {s : Option Addr} {c : Nat} {nd : List Nd} (h : w.ownsRow base 29 3 (.slice s nd.length c) nd.length (ncells nd)) (hn : 2 ≤ nd.length) :
    ∃ g, s = some ⟨g, 0, none⟩ ∧ base ≤ g ∧ w.frozen? ⟨g, 3, none⟩ = false ∧ (∃ u, w.cell? ⟨g, 3, none⟩ = some (.int .i64 u)) ∧ (∃ cur, w.heap[g]? = some (.cells cur 29 (0, 0))) ∧ ∃ nd' : List Nd, nd'.length = nd.length ∧ (w.setCell ⟨g, 3, none⟩ (.int .i64 1)).ownsRow base 29 3 (.slice s nd.length c) nd'.length (ncells nd') := by
  match nd, hn, h with
  | x :: y :: r, _, h =>
    obtain ⟨h1, h2⟩ := h
    rcases h2 with ⟨h3, h4⟩ | ⟨g, cap, cur, h3, hb, hg, hl, hm, hs, ht⟩
    · simp at h3
    · simp only [Value.slice.injEq] at h3
      obtain ⟨rfl, -, rfl⟩ := h3
      have hcur : cur[3]? = some (.int .i64 y.v) := by
        have : (cur.toList.take ((x :: y :: r).length * 3))[3]? = some (.int .i64 y.v) := by rw [ht]; rfl
        rw [List.getElem?_take] at this
        split at this
        · simpa using this
        · cases this
      refine ⟨g, rfl, hb, blk_free hg, ⟨y.v, by rw [blk_cell hg]; exact hcur⟩, ⟨cur, hg⟩, x :: ⟨1, y.lo, y.hi⟩ :: r, rfl, ⟨by rw [ncells_length]; simp; omega, .inr ⟨g, c, cur.setIfInBounds 3 (.int .i64 1), rfl, hb, blk_set hg, hl, hm, by simpa using hs, ?_⟩⟩⟩
      show List.take ((x :: y :: r).length * 3) _ = _
      rw [Array.toList_setIfInBounds, List.take_set, ht]
      rfl
theorem BT.setN {R : Nat} {s : Option Addr} {c : Nat} {xs : List Int} {w0 : World} {NB : Nat} {root : Int} {nd : List Nd} {vs : Value} {p : Nat} {w1 : World} {vs' : Value} {nd' : List Nd} (h : BT R s c xs w0 NB root nd vs p w1) (ho : w1.ownsRow w0.heap.size 29 3 vs' nd'.length (ncells nd')) : BT R s c xs w0 NB root nd' vs' p (w1.setCell ⟨NB, 0, none⟩ vs') := by
  have hbl := (Below.refl w0.heap.size w1).setCell (p := ⟨NB, 0, none⟩) h.hB vs'
  exact ⟨by simpa using blk_set (o := 0) (v := vs') h.blk, own_set_ne ho (own_tyb ho h.blk (by decide)) _, h.rd.grown hbl h.hR, h.kp.trans (Kp.of_below hbl), h.hR, h.hB⟩
theorem BT.setR {R : Nat} {s : Option Addr} {c : Nat} {xs : List Int} {w0 : World} {NB : Nat} {root : Int} {nd : List Nd} {vs : Value} {p : Nat} {w1 : World} (h : BT R s c xs w0 NB root nd vs p w1) (y : Int) : BT R s c xs w0 NB y nd vs p (w1.setCell ⟨NB, 1, none⟩ (.int .i64 y)) := by
  have hbl := (Below.refl w0.heap.size w1).setCell (p := ⟨NB, 1, none⟩) h.hB (.int .i64 y)
  exact ⟨by simpa using blk_set (o := 1) (v := .int .i64 y) h.blk, own_set_ne h.own (own_tyb h.own h.blk (by decide)) _, h.rd.grown hbl h.hR, h.kp.trans (Kp.of_below hbl), h.hR, h.hB⟩

set_option maxRecDepth 100000 in
set_option maxHeartbeats 6400000 in
theorem l20Bdd_any (R : Nat) (s : Option Addr) (c : Nat) (xs : List Int) (p : Nat) (n : Int) (w : World) (h : Rd w R s c xs p) (hp : p ≤ 100000) (hn : 0 ≤ n) (hn2 : n ≤ 1000) :
    Calls Try.prog 55 #[.pointer (some ⟨R, 0, none⟩), .int .i64 n] w (BkPost R s c xs p w) := by
  have hR : R < w.heap.size := blk_lt h.blk
  obtain ⟨W0, hW0⟩ : ∃ W0, W0 = w.alloc (.cells #[.slice none 0 0, .int .i64 0] 25) := ⟨_, rfl⟩
  have hz : W0.heap.size = w.heap.size + 1 := by rw [hW0]; simp
  have hrd : Rd W0 R s c xs p := by rw [hW0]; exact h.mono ((Below.refl _ _).alloc (Nat.le_refl _) _)
  have HZ := Lib.hid hz
  have HW0 := Lib.hid hW0
  have HRD := Lib.hid hrd
  clear h hrd hW0 hz
  go_enter Try.func55, Try.ntmps55
  go_upto_region 1 with fail
  rw [← HW0.out]
  go_upto_region 2 with (go_at_call 76; ((with_reducible refine (l20Circuit0_any _ _ _ _ _ _ HRD.out (by omega)).mono ?_); rintro e w2 ⟨C, vn, vg, vo, p', rfl, h1, h2, h3, h4, h5, h6⟩; obtain ⟨sn, cn, rfl⟩ := own_shape h1.n; obtain ⟨sg, cg, rfl⟩ := own_shape h1.g; obtain ⟨so, co, rfl⟩ := own_shape h1.o; have HI := Lib.hid (And.intro h1 (And.intro h3 h5)); have HV := Lib.hid h6; obtain ⟨l1, l2, l3, l4, l5⟩ := h2; have hp' : p' ≤ p + 1000 := h4; clear h1 h3 h4 h5 h6))
  obtain ⟨B, hB⟩ : ∃ B, B = w2.heap.size := ⟨_, rfl⟩
  have hk0 : KT R s c xs W0 B C.inp C.next C.gates C.outs (.slice sn C.next.length cn) (.slice sg C.gates.length cg) (.slice so C.outs.length co) p' (w2.alloc (.cells #[.int .i64 C.inp, .slice sn C.next.length cn, .slice sg C.gates.length cg, .slice so C.outs.length co] 44)) :=
    ⟨⟨by rw [hB]; exact blk_new _ _, own_below HI.out.1.n (below_alloc _ _), own_below HI.out.1.g (below_alloc _ _), own_below HI.out.1.o (below_alloc _ _), HI.out.1.ne⟩, HI.out.2.1.mono (below_alloc _ _), HI.out.2.2.alloc (Nat.le_refl _) _, by rw [HZ.out]; omega, by rw [hB]; exact HI.out.2.2.size⟩
  have HK := Lib.hid hk0
  clear hk0 HI HRD
  rw [← hB]
  revert HK
  generalize w2.alloc (.cells #[.int .i64 C.inp, .slice sn C.next.length cn, .slice sg C.gates.length cg, .slice so C.outs.length co] 44) = W1
  intro HK
  clear hB
  have i0 := HV.out.lim.1
  have HCV : Hid (∀ W q, KT R s c xs W0 B C.inp C.next C.gates C.outs (.slice sn C.next.length cn) (.slice sg C.gates.length cg) (.slice so C.outs.length co) q W → CirV W (.agg #[.int .i64 C.inp, .slice sn C.next.length cn, .slice sg C.gates.length cg, .slice so C.outs.length co]) C) := fun W q hk => ⟨_, _, _, _, _, _, rfl, own_sl hk.out.n, own_sl hk.out.g, own_sl hk.out.o, by omega, by omega, by omega⟩
  go_cut [6] from 9 to 14 (fun s6 wx => ∃ (NB : Nat) (d : Bd) (sb : Option Addr) (cb p2 : Nat), s6 = .pointer (some ⟨NB, 0, none⟩) ∧ p2 ≤ p' + 10 ∧ (2 ≤ d.nodes.length ∧ d.nodes.length ≤ 200 ∧ 0 ≤ d.root ∧ d.root ≤ 200) ∧ BT R s c xs W0 NB d.root d.nodes (.slice sb d.nodes.length cb) p2 wx)
  case first =>
    refine wp_region_T (fun w' => ∀ o, w'.cell? ⟨B, o, none⟩ = #[Value.int .i64 C.inp, .slice sn C.next.length cn, .slice sg C.gates.length cg, .slice so C.outs.length co][o]?) (.q 0 (.q 1 (.q 2 (.two 3 (.two 4 (.e 5 (.e 6 .nil)) 5 (.e 4 (.e 6 .nil))) 5 (.e 3 (.e 4 (.e 6 .nil))))))) (by kernel_rfl) (by kernel_rfl) (by kernel_rfl) HK.out.drew.cells.1 ?_
    repeat (first | (refine ordt_s (o := ?_) ?_ ?_ ?_; rotate_left 1; (focus ((simp only [List.getElem?_toArray, List.getElem?_cons_succ, List.getElem?_cons_zero]) <;> rfl)); (focus rfl); simp only [Act.put, List.setIfInBounds_toArray, List.set_cons_zero, List.set_cons_succ]) | (refine ordt_q (o := ?_) (v := ?_) ?_ ?_ ?_ ?_; rotate_left 2; (focus ((simp only [List.getElem?_toArray, List.getElem?_cons_succ, List.getElem?_cons_zero]) <;> rfl)); (focus rfl); (focus (intro w' hS; (try dsimp only at hS); go_split_ands; go_simp; (try (with_reducible rfl)))); simp only [Act.put, List.setIfInBounds_toArray, List.set_cons_zero, List.set_cons_succ]))
    refine ordt_two ?_ ?_
    · (refine op_e (o := ?_) ?_ ?_ (fun K hK => ?_); rotate_left 1; (focus ((simp only [List.getElem?_toArray, List.getElem?_cons_succ, List.getElem?_cons_zero]) <;> rfl)); (focus rfl); go_simp)
      refine (l20Lit0_any _ _ _ _ _ _ _ _ _ _ _ _ _ _ _ _ (HK.out.drew).rd (by omega) (by omega) (by omega) (by omega) (by omega)).mono ?_
      rintro e wd ⟨li, p2, rfl, hli, hp2, hrd, hup⟩
      have hk2 := (HK.out.drew).upd hrd hup
      refine hK.out _ _ hk2.cells.1 ?_
      clear hK K hrd
      obtain ⟨li1, li2⟩ := hli
      have HTS : Hid (tsOk C li) := ⟨C.validB_iff.2 HV.out, ⟨li1, by show li < 2 * (1 + C.inp + C.next.length + C.gates.length); omega⟩⟩
      have HKd := Lib.hid hk2
      clear hk2
      (try simp only [Act.put, List.setIfInBounds_toArray, List.set_cons_zero, List.set_cons_succ])
      repeat (first | (refine ordt_s (o := ?_) ?_ ?_ ?_; rotate_left 1; (focus ((simp only [List.getElem?_toArray, List.getElem?_cons_succ, List.getElem?_cons_zero]) <;> rfl)); (focus rfl); simp only [Act.put, List.setIfInBounds_toArray, List.set_cons_zero, List.set_cons_succ]) | (refine ordt_q (o := ?_) (v := ?_) ?_ ?_ ?_ ?_; rotate_left 2; (focus ((simp only [List.getElem?_toArray, List.getElem?_cons_succ, List.getElem?_cons_zero]) <;> rfl)); (focus rfl); (focus (intro w' hS; (try dsimp only at hS); go_split_ands; go_simp; (try (with_reducible rfl)))); simp only [Act.put, List.setIfInBounds_toArray, List.set_cons_zero, List.set_cons_succ]))
      refine ordt_two ?_ ?_
      · (refine op_e (o := ?_) ?_ ?_ (fun K hK => ?_); rotate_left 1; (focus ((simp only [List.getElem?_toArray, List.getElem?_cons_succ, List.getElem?_cons_zero]) <;> rfl)); (focus rfl); go_simp)
        refine (BuildBdd_own _ C li _ (HCV.out _ _ (HKd.out)) HTS.out ⟨by omega, by omega⟩).mono ?_
        rintro e we ⟨sb, cb, rfl, hbo, hbq⟩
        have hk2 := (HKd.out).below hbq
        have hbase := (HKd.out).sz
        refine hK.out _ _ hk2.cells.1 ?_
        clear hK K
        (try simp only [Act.put, List.setIfInBounds_toArray, List.set_cons_zero, List.set_cons_succ])
        repeat (first | (refine ordt_s (o := ?_) ?_ ?_ ?_; rotate_left 1; (focus ((simp only [List.getElem?_toArray, List.getElem?_cons_succ, List.getElem?_cons_zero]) <;> rfl)); (focus rfl); simp only [Act.put, List.setIfInBounds_toArray, List.set_cons_zero, List.set_cons_succ]) | (refine ordt_q (o := ?_) (v := ?_) ?_ ?_ ?_ ?_; rotate_left 2; (focus ((simp only [List.getElem?_toArray, List.getElem?_cons_succ, List.getElem?_cons_zero]) <;> rfl)); (focus rfl); (focus (intro w' hS; (try dsimp only at hS); go_split_ands; go_simp; (try (with_reducible rfl)))); simp only [Act.put, List.setIfInBounds_toArray, List.set_cons_zero, List.set_cons_succ]))
        have HBO := Lib.hid hbo
        clear hbo hbq
        refine ordt_e ?_
        (refine op_e (o := ?_) ?_ ?_ (fun K hK => ?_); rotate_left 1; (focus ((simp only [List.getElem?_toArray, List.getElem?_cons_succ, List.getElem?_cons_zero]) <;> rfl)); (focus rfl); go_simp)
        have hA := (hk2).alloc (.cells #[.slice none 0 0, .int .i64 0] 25)
        have h0 : ((we).alloc (.cells #[.slice none 0 0, .int .i64 0] 25)).heap[(we).heap.size]? = some (.cells #[.slice none 0 0, .int .i64 0] 25 (0, 0)) := blk_new we (.cells #[.slice none 0 0, .int .i64 0] 25)
        have hnb : W0.heap.size ≤ (we).heap.size := (hk2).sz
        refine hK.out _ _ hA.cells.1 ?_
        clear hK K
        have HA := Lib.hid hA
        have H0 := Lib.hid h0
        have HNB := Lib.hid hnb
        clear hA h0 hnb
        (try simp only [Act.put, List.setIfInBounds_toArray, List.set_cons_zero, List.set_cons_succ])
        have HBO := Lib.hid (own_below HBO.out (below_alloc we (.cells #[.slice none 0 0, .int .i64 0] 25)))
        obtain ⟨NB, hNB⟩ : ∃ NB, NB = (we).heap.size := ⟨_, rfl⟩
        rw [← hNB] at H0 HNB ⊢
        clear hNB
        revert HA H0 HBO
        generalize (we).alloc (.cells #[.slice none 0 0, .int .i64 0] 25) = WF
        intro HA HBO H0
        repeat (first | (refine ordt_s (o := ?_) ?_ ?_ ?_; rotate_left 1; (focus ((simp only [List.getElem?_toArray, List.getElem?_cons_succ, List.getElem?_cons_zero]) <;> rfl)); (focus rfl); simp only [Act.put, List.setIfInBounds_toArray, List.set_cons_zero, List.set_cons_succ]) | (refine ordt_q (o := ?_) (v := ?_) ?_ ?_ ?_ ?_; rotate_left 2; (focus ((simp only [List.getElem?_toArray, List.getElem?_cons_succ, List.getElem?_cons_zero]) <;> rfl)); (focus rfl); (focus (intro w' hS; (try dsimp only at hS); go_split_ands; go_simp; (try (with_reducible rfl)))); simp only [Act.put, List.setIfInBounds_toArray, List.set_cons_zero, List.set_cons_succ]))
        obtain ⟨rc, rf⟩ := blk_all H0.out
        refine ordt_e ?_
        (refine op_e (o := ?_) ?_ ?_ (fun K hK => ?_); rotate_left 1; (focus ((simp only [List.getElem?_toArray, List.getElem?_cons_succ, List.getElem?_cons_zero]) <;> rfl)); (focus rfl); go_simp)
        have hne : NB ≠ B := by
          intro e
          have h1 := H0.out; have h2 := HA.out.out.blk
          rw [e, h2] at h1; cases h1
        have hKB := blk_set_ne (o := 1) (v := .int .i64 (bdR C li).root) hne (blk_set_ne (o := 0) (v := .slice sb (bdR C li).nodes.length cb) hne HA.out.out.blk)
        refine hK.out _ _ (blk_all hKB).1 ?_
        clear hK K rc rf
        have hbt := BT.mk0 (w0 := W0) (root := (bdR C li).root) H0.out HBO.out hbase HA.out.rd HA.out.kp HA.out.hR HNB.out
        (try simp only [Act.put, List.setIfInBounds_toArray, List.set_cons_zero, List.set_cons_succ])
        repeat (first | (refine ordt_s (o := ?_) ?_ ?_ ?_; rotate_left 1; (focus ((simp only [List.getElem?_toArray, List.getElem?_cons_succ, List.getElem?_cons_zero]) <;> rfl)); (focus rfl); simp only [Act.put, List.setIfInBounds_toArray, List.set_cons_zero, List.set_cons_succ]) | (refine ordt_q (o := ?_) (v := ?_) ?_ ?_ ?_ ?_; rotate_left 2; (focus ((simp only [List.getElem?_toArray, List.getElem?_cons_succ, List.getElem?_cons_zero]) <;> rfl)); (focus rfl); (focus (intro w' hS; (try dsimp only at hS); go_split_ands; go_simp; (try (with_reducible rfl)))); simp only [Act.put, List.setIfInBounds_toArray, List.set_cons_zero, List.set_cons_succ]))
        refine ordt_nil ?_
        go_wp2_with fail
        go_meet
        have r1 := bdR_root C li
        exact ⟨NB, bdR C li, sb, cb, p2, rfl, hp2, ⟨bdR_two HTS.out, bdR_len C li, r1.1, r1.2⟩, hbt⟩
      · (refine op_e (o := ?_) ?_ ?_ (fun K hK => ?_); rotate_left 1; (focus ((simp only [List.getElem?_toArray, List.getElem?_cons_succ, List.getElem?_cons_zero]) <;> rfl)); (focus rfl); go_simp)
        have hA := (HKd.out).alloc (.cells #[.slice none 0 0, .int .i64 0] 25)
        have h0 : ((wd).alloc (.cells #[.slice none 0 0, .int .i64 0] 25)).heap[(wd).heap.size]? = some (.cells #[.slice none 0 0, .int .i64 0] 25 (0, 0)) := blk_new wd (.cells #[.slice none 0 0, .int .i64 0] 25)
        have hnb : W0.heap.size ≤ (wd).heap.size := (HKd.out).sz
        refine hK.out _ _ hA.cells.1 ?_
        clear hK K
        have HA := Lib.hid hA
        have H0 := Lib.hid h0
        have HNB := Lib.hid hnb
        clear hA h0 hnb
        (try simp only [Act.put, List.setIfInBounds_toArray, List.set_cons_zero, List.set_cons_succ])
        obtain ⟨NB, hNB⟩ : ∃ NB, NB = (wd).heap.size := ⟨_, rfl⟩
        rw [← hNB] at H0 HNB ⊢
        clear hNB
        revert HA H0 
        generalize (wd).alloc (.cells #[.slice none 0 0, .int .i64 0] 25) = WF
        intro HA  H0
        repeat (first | (refine ordt_s (o := ?_) ?_ ?_ ?_; rotate_left 1; (focus ((simp only [List.getElem?_toArray, List.getElem?_cons_succ, List.getElem?_cons_zero]) <;> rfl)); (focus rfl); simp only [Act.put, List.setIfInBounds_toArray, List.set_cons_zero, List.set_cons_succ]) | (refine ordt_q (o := ?_) (v := ?_) ?_ ?_ ?_ ?_; rotate_left 2; (focus ((simp only [List.getElem?_toArray, List.getElem?_cons_succ, List.getElem?_cons_zero]) <;> rfl)); (focus rfl); (focus (intro w' hS; (try dsimp only at hS); go_split_ands; go_simp; (try (with_reducible rfl)))); simp only [Act.put, List.setIfInBounds_toArray, List.set_cons_zero, List.set_cons_succ]))
        refine ordt_e ?_
        (refine op_e (o := ?_) ?_ ?_ (fun K hK => ?_); rotate_left 1; (focus ((simp only [List.getElem?_toArray, List.getElem?_cons_succ, List.getElem?_cons_zero]) <;> rfl)); (focus rfl); go_simp)
        refine (BuildBdd_own _ C li _ (HCV.out _ _ (HA.out)) HTS.out ⟨by omega, by omega⟩).mono ?_
        rintro e we ⟨sb, cb, rfl, hbo, hbq⟩
        have hk2 := (HA.out).below hbq
        have hbase := (HA.out).sz
        refine hK.out _ _ hk2.cells.1 ?_
        clear hK K
        (try simp only [Act.put, List.setIfInBounds_toArray, List.set_cons_zero, List.set_cons_succ])
        repeat (first | (refine ordt_s (o := ?_) ?_ ?_ ?_; rotate_left 1; (focus ((simp only [List.getElem?_toArray, List.getElem?_cons_succ, List.getElem?_cons_zero]) <;> rfl)); (focus rfl); simp only [Act.put, List.setIfInBounds_toArray, List.set_cons_zero, List.set_cons_succ]) | (refine ordt_q (o := ?_) (v := ?_) ?_ ?_ ?_ ?_; rotate_left 2; (focus ((simp only [List.getElem?_toArray, List.getElem?_cons_succ, List.getElem?_cons_zero]) <;> rfl)); (focus rfl); (focus (intro w' hS; (try dsimp only at hS); go_split_ands; go_simp; (try (with_reducible rfl)))); simp only [Act.put, List.setIfInBounds_toArray, List.set_cons_zero, List.set_cons_succ]))
        have H0 := Lib.hid (blk_below hbq (blk_lt H0.out) H0.out)
        have HA := Lib.hid hk2
        have HBO := Lib.hid hbo
        clear hbo hbq hk2
        obtain ⟨rc, rf⟩ := blk_all H0.out
        refine ordt_e ?_
        (refine op_e (o := ?_) ?_ ?_ (fun K hK => ?_); rotate_left 1; (focus ((simp only [List.getElem?_toArray, List.getElem?_cons_succ, List.getElem?_cons_zero]) <;> rfl)); (focus rfl); go_simp)
        have hne : NB ≠ B := by
          intro e
          have h1 := H0.out; have h2 := HA.out.out.blk
          rw [e, h2] at h1; cases h1
        have hKB := blk_set_ne (o := 1) (v := .int .i64 (bdR C li).root) hne (blk_set_ne (o := 0) (v := .slice sb (bdR C li).nodes.length cb) hne HA.out.out.blk)
        refine hK.out _ _ (blk_all hKB).1 ?_
        clear hK K rc rf
        have hbt := BT.mk0 (w0 := W0) (root := (bdR C li).root) H0.out HBO.out hbase HA.out.rd HA.out.kp HA.out.hR HNB.out
        (try simp only [Act.put, List.setIfInBounds_toArray, List.set_cons_zero, List.set_cons_succ])
        repeat (first | (refine ordt_s (o := ?_) ?_ ?_ ?_; rotate_left 1; (focus ((simp only [List.getElem?_toArray, List.getElem?_cons_succ, List.getElem?_cons_zero]) <;> rfl)); (focus rfl); simp only [Act.put, List.setIfInBounds_toArray, List.set_cons_zero, List.set_cons_succ]) | (refine ordt_q (o := ?_) (v := ?_) ?_ ?_ ?_ ?_; rotate_left 2; (focus ((simp only [List.getElem?_toArray, List.getElem?_cons_succ, List.getElem?_cons_zero]) <;> rfl)); (focus rfl); (focus (intro w' hS; (try dsimp only at hS); go_split_ands; go_simp; (try (with_reducible rfl)))); simp only [Act.put, List.setIfInBounds_toArray, List.set_cons_zero, List.set_cons_succ]))
        refine ordt_nil ?_
        go_wp2_with fail
        go_meet
        have r1 := bdR_root C li
        exact ⟨NB, bdR C li, sb, cb, p2, rfl, hp2, ⟨bdR_two HTS.out, bdR_len C li, r1.1, r1.2⟩, hbt⟩
    · (refine op_e (o := ?_) ?_ ?_ (fun K hK => ?_); rotate_left 1; (focus ((simp only [List.getElem?_toArray, List.getElem?_cons_succ, List.getElem?_cons_zero]) <;> rfl)); (focus rfl); go_simp)
      have hA := (HK.out.alloc (.cells #[.slice none 0 0, .int .i64 0] 25)).drew
      have h0 : (W1.alloc (.cells #[.slice none 0 0, .int .i64 0] 25)).drew.heap[W1.heap.size]? = some (.cells #[.slice none 0 0, .int .i64 0] 25 (0, 0)) := blk_new W1 (.cells #[.slice none 0 0, .int .i64 0] 25)
      have hnb : W0.heap.size ≤ W1.heap.size := HK.out.sz
      refine hK.out _ _ hA.cells.1 ?_
      clear hK K
      have HA := Lib.hid hA
      have H0 := Lib.hid h0
      have HNB := Lib.hid hnb
      clear hA h0 hnb
      (try simp only [Act.put, List.setIfInBounds_toArray, List.set_cons_zero, List.set_cons_succ])
      obtain ⟨NB, hNB⟩ : ∃ NB, NB = W1.heap.size := ⟨_, rfl⟩
      rw [← hNB] at H0 HNB
      rw [← hNB]
      clear hNB
      revert HA H0
      generalize (W1.alloc (.cells #[.slice none 0 0, .int .i64 0] 25)).drew = WF
      intro HA H0
      repeat (first | (refine ordt_s (o := ?_) ?_ ?_ ?_; rotate_left 1; (focus ((simp only [List.getElem?_toArray, List.getElem?_cons_succ, List.getElem?_cons_zero]) <;> rfl)); (focus rfl); simp only [Act.put, List.setIfInBounds_toArray, List.set_cons_zero, List.set_cons_succ]) | (refine ordt_q (o := ?_) (v := ?_) ?_ ?_ ?_ ?_; rotate_left 2; (focus ((simp only [List.getElem?_toArray, List.getElem?_cons_succ, List.getElem?_cons_zero]) <;> rfl)); (focus rfl); (focus (intro w' hS; (try dsimp only at hS); go_split_ands; go_simp; (try (with_reducible rfl)))); simp only [Act.put, List.setIfInBounds_toArray, List.set_cons_zero, List.set_cons_succ]))
      refine ordt_e ?_
      (refine op_e (o := ?_) ?_ ?_ (fun K hK => ?_); rotate_left 1; (focus ((simp only [List.getElem?_toArray, List.getElem?_cons_succ, List.getElem?_cons_zero]) <;> rfl)); (focus rfl); go_simp)
      refine (l20Lit0_any _ _ _ _ _ _ _ _ _ _ _ _ _ _ _ _ (HA.out).rd (by omega) (by omega) (by omega) (by omega) (by omega)).mono ?_
      rintro e wd ⟨li, p2, rfl, hli, hp2, hrd, hup⟩
      have hk2 := (HA.out).upd hrd hup
      refine hK.out _ _ hk2.cells.1 ?_
      clear hK K hrd
      obtain ⟨li1, li2⟩ := hli
      have HTS : Hid (tsOk C li) := ⟨C.validB_iff.2 HV.out, ⟨li1, by show li < 2 * (1 + C.inp + C.next.length + C.gates.length); omega⟩⟩
      have HKd := Lib.hid hk2
      clear hk2
      (try simp only [Act.put, List.setIfInBounds_toArray, List.set_cons_zero, List.set_cons_succ])
      repeat (first | (refine ordt_s (o := ?_) ?_ ?_ ?_; rotate_left 1; (focus ((simp only [List.getElem?_toArray, List.getElem?_cons_succ, List.getElem?_cons_zero]) <;> rfl)); (focus rfl); simp only [Act.put, List.setIfInBounds_toArray, List.set_cons_zero, List.set_cons_succ]) | (refine ordt_q (o := ?_) (v := ?_) ?_ ?_ ?_ ?_; rotate_left 2; (focus ((simp only [List.getElem?_toArray, List.getElem?_cons_succ, List.getElem?_cons_zero]) <;> rfl)); (focus rfl); (focus (intro w' hS; (try dsimp only at hS); go_split_ands; go_simp; (try (with_reducible rfl)))); simp only [Act.put, List.setIfInBounds_toArray, List.set_cons_zero, List.set_cons_succ]))
      have H0 := Lib.hid ((hup.block _ (blk_lt H0.out) (by have h1 := HA.out.hR; have h2 := HNB.out; simp; omega)).trans H0.out)
      clear hup
      refine ordt_e ?_
      (refine op_e (o := ?_) ?_ ?_ (fun K hK => ?_); rotate_left 1; (focus ((simp only [List.getElem?_toArray, List.getElem?_cons_succ, List.getElem?_cons_zero]) <;> rfl)); (focus rfl); go_simp)
      refine (BuildBdd_own _ C li _ (HCV.out _ _ (HKd.out)) HTS.out ⟨by omega, by omega⟩).mono ?_
      rintro e we ⟨sb, cb, rfl, hbo, hbq⟩
      have hk2 := (HKd.out).below hbq
      have hbase := (HKd.out).sz
      refine hK.out _ _ hk2.cells.1 ?_
      clear hK K
      (try simp only [Act.put, List.setIfInBounds_toArray, List.set_cons_zero, List.set_cons_succ])
      repeat (first | (refine ordt_s (o := ?_) ?_ ?_ ?_; rotate_left 1; (focus ((simp only [List.getElem?_toArray, List.getElem?_cons_succ, List.getElem?_cons_zero]) <;> rfl)); (focus rfl); simp only [Act.put, List.setIfInBounds_toArray, List.set_cons_zero, List.set_cons_succ]) | (refine ordt_q (o := ?_) (v := ?_) ?_ ?_ ?_ ?_; rotate_left 2; (focus ((simp only [List.getElem?_toArray, List.getElem?_cons_succ, List.getElem?_cons_zero]) <;> rfl)); (focus rfl); (focus (intro w' hS; (try dsimp only at hS); go_split_ands; go_simp; (try (with_reducible rfl)))); simp only [Act.put, List.setIfInBounds_toArray, List.set_cons_zero, List.set_cons_succ]))
      have H0 := Lib.hid (blk_below hbq (blk_lt H0.out) H0.out)
      have HA := Lib.hid hk2
      have HBO := Lib.hid hbo
      clear hbo hbq hk2
      obtain ⟨rc, rf⟩ := blk_all H0.out
      refine ordt_e ?_
      (refine op_e (o := ?_) ?_ ?_ (fun K hK => ?_); rotate_left 1; (focus ((simp only [List.getElem?_toArray, List.getElem?_cons_succ, List.getElem?_cons_zero]) <;> rfl)); (focus rfl); go_simp)
      have hne : NB ≠ B := by
        intro e
        have h1 := H0.out; have h2 := HA.out.out.blk
        rw [e, h2] at h1; cases h1
      have hKB := blk_set_ne (o := 1) (v := .int .i64 (bdR C li).root) hne (blk_set_ne (o := 0) (v := .slice sb (bdR C li).nodes.length cb) hne HA.out.out.blk)
      refine hK.out _ _ (blk_all hKB).1 ?_
      clear hK K rc rf
      have hbt := BT.mk0 (w0 := W0) (root := (bdR C li).root) H0.out HBO.out hbase HA.out.rd HA.out.kp HA.out.hR HNB.out
      (try simp only [Act.put, List.setIfInBounds_toArray, List.set_cons_zero, List.set_cons_succ])
      repeat (first | (refine ordt_s (o := ?_) ?_ ?_ ?_; rotate_left 1; (focus ((simp only [List.getElem?_toArray, List.getElem?_cons_succ, List.getElem?_cons_zero]) <;> rfl)); (focus rfl); simp only [Act.put, List.setIfInBounds_toArray, List.set_cons_zero, List.set_cons_succ]) | (refine ordt_q (o := ?_) (v := ?_) ?_ ?_ ?_ ?_; rotate_left 2; (focus ((simp only [List.getElem?_toArray, List.getElem?_cons_succ, List.getElem?_cons_zero]) <;> rfl)); (focus rfl); (focus (intro w' hS; (try dsimp only at hS); go_split_ands; go_simp; (try (with_reducible rfl)))); simp only [Act.put, List.setIfInBounds_toArray, List.set_cons_zero, List.set_cons_succ]))
      refine ordt_nil ?_
      go_wp2_with fail
      go_meet
      have r1 := bdR_root C li
      exact ⟨NB, bdR C li, sb, cb, p2, rfl, hp2, ⟨bdR_two HTS.out, bdR_len C li, r1.1, r1.2⟩, hbt⟩
  case rest =>
    obtain ⟨NB, d, sb, kb, p2, rfl, hp2, ⟨d1, d2, d3, d4⟩, hbt⟩ := hcut
    have HK := Lib.hid hbt
    have cb := HK.out.cells.1
    clear hbt
    have hpp : p2 ≤ p + 1010 := by omega
    obtain ⟨nd, root⟩ := d
    simp only at d1 d2 d3 d4 HK cb
    clear HCV HV hp' hp2 l1 l2 l3 l4 l5 i0
    go_upto_region 4 with (go_at_call 86; ((refine (odd_bt _ _ _ _ _ _ _ _ _ _ _ _ HK.out (by omega) (by omega) (by omega)).mono ?_); rintro e w' ⟨odd, p4, rfl, hp4, hk2⟩; have HK := Lib.hid hk2; clear hk2; (try clear cb); have cb := HK.out.cells.1; obtain ⟨rc, rf⟩ := BT.res HK.out HW0.out hR; cases odd))
    · refine BT.ret (p0 := p) (HK.out) HW0.out hR ?_ ?_ ?_ ?_ ?_ ?_
      · first | rfl | assumption
      · omega
      · exact ⟨by omega, by omega⟩
      · omega
      · rfl
      · rfl
    clear rc rf
    go_upto_region 7 with (go_at_call 58; ((with_reducible refine (pick_bt _ _ _ _ _ _ _ _ _ _ _ _ HK.out (by omega) (by omega)).mono ?_); rintro e w9 ⟨K6, rfl, hk1, hk2, -, -⟩; have HK := Lib.hid hk2; have HPK6 := Lib.hid hk1; clear hk1 hk2; (try clear cb); have cb := HK.out.cells.1))
    have k6 : K6 ≤ 5 := by have := HPK6.out.2; omega
    clear HPK6
    rcases (show K6 ≤ 0 ∨ (1 ≤ K6 ∧ K6 ≤ 1) ∨ (2 ≤ K6 ∧ K6 ≤ 2) ∨ (3 ≤ K6 ∧ K6 ≤ 3) ∨ (4 ≤ K6 ∧ K6 ≤ 4) ∨ 5 ≤ K6 by omega) with k6' | ⟨k5', k6'⟩ | ⟨k5', k6'⟩ | ⟨k5', k6'⟩ | ⟨k5', k6'⟩ | k6'
    · go_upto_region 8 with fail
      refine wp_region_E (fun w' => ∀ o, w'.cell? ⟨NB, o, none⟩ = #[Value.slice sb nd.length kb, .int .i64 root][o]?) 9 (.q 0 (.q 1 (.q 2 (.q 4 (.two 3 (.e 5 (.q 6 (.e 7 (.q 8 (.z 9))))) 5 (.e 3 (.q 6 (.e 7 (.q 8 (.z 9)))))))))) (by kernel_rfl) (by kernel_rfl) (by kernel_rfl) (by kernel_rfl) (by kernel_rfl) (by kernel_rfl) HK.out.drew.cells.1 ?_
      have hD := HK.out.drew
      clear HK cb
      revert hD
      generalize w9.drew = wb
      intro hD
      have HK := Lib.hid hD
      clear hD
      repeat (first | (refine orde_s (o := ?_) ?_ ?_ ?_; rotate_left 1; (focus ((simp only [List.getElem?_toArray, List.getElem?_cons_succ, List.getElem?_cons_zero]) <;> rfl)); (focus rfl); simp only [Act.put, List.setIfInBounds_toArray, List.set_cons_zero, List.set_cons_succ]) | (refine orde_q (o := ?_) (v := ?_) ?_ ?_ ?_ ?_; rotate_left 2; (focus ((simp only [List.getElem?_toArray, List.getElem?_cons_succ, List.getElem?_cons_zero]) <;> rfl)); (focus rfl); (focus (intro w' hS; (try dsimp only at hS); go_split_ands; go_simp; (try (with_reducible rfl)))); simp only [Act.put, List.setIfInBounds_toArray, List.set_cons_zero, List.set_cons_succ]))
      refine orde_two ?_ ?_
      · (refine ope_e (o := ?_) ?_ ?_ (fun K hK => ?_); rotate_left 1; (focus ((simp only [List.getElem?_toArray, List.getElem?_cons_succ, List.getElem?_cons_zero]) <;> rfl)); (focus rfl); go_simp)
        refine hK.out _ _ ((HK.out).alloc _).cells.1 ?_
        clear hK K
        obtain ⟨CB, hCB⟩ : ∃ CB, CB = wb.heap.size := ⟨_, rfl⟩
        rw [← hCB]
        have hNs := HK.out.sz
        rw [← hCB] at hNs
        have HNB := Lib.hid hNs
        have hA := HK.out.alloc (.cells #[.int .i64 (-1), .int .i64 (nd.length : Int)] 3)
        have hC := blk_new wb (.cells #[.int .i64 (-1), .int .i64 (nd.length : Int)] 3)
        rw [← hCB] at hC
        revert hA hC
        generalize wb.alloc (.cells #[.int .i64 (-1), .int .i64 (nd.length : Int)] 3) = WA
        intro hA hC
        have HK := Lib.hid hA
        have HC := Lib.hid hC
        clear hA hC hCB hNs
        (try simp only [Act.put, List.setIfInBounds_toArray, List.set_cons_zero, List.set_cons_succ])
        refine orde_e ?_
        (refine ope_e (o := ?_) ?_ ?_ (fun K hK => ?_); rotate_left 1; (focus ((simp only [List.getElem?_toArray, List.getElem?_cons_succ, List.getElem?_cons_zero]) <;> rfl)); (focus rfl); go_simp)
        refine (pick_bt _ _ _ _ _ _ _ _ _ _ _ _ HK.out (by omega) (by omega)).mono ?_
        rintro e wd ⟨q3, rfl, hk1, hk2, hk3, -⟩
        refine hK.out _ _ hk2.cells.1 ?_
        clear hK K
        have hq3 : q3 ≤ 1 := by have := hk1.2; omega
        have hqi : (q3 : Int) < 2 := by omega
        have hblk := (hk3.block _ (blk_lt HC.out) (by have h1 := HK.out.hR; have h2 := HNB.out; simp; omega)).trans HC.out
        have HK := Lib.hid hk2
        have HC := Lib.hid hblk
        clear hk1 hk2 hk3 hblk
        (try simp only [Act.put, List.setIfInBounds_toArray, List.set_cons_zero, List.set_cons_succ])
        repeat (first | (refine orde_s (o := ?_) ?_ ?_ ?_; rotate_left 1; (focus ((simp only [List.getElem?_toArray, List.getElem?_cons_succ, List.getElem?_cons_zero]) <;> rfl)); (focus rfl); simp only [Act.put, List.setIfInBounds_toArray, List.set_cons_zero, List.set_cons_succ]) | (refine orde_q (o := ?_) (v := ?_) ?_ ?_ ?_ ?_; rotate_left 2; (focus ((simp only [List.getElem?_toArray, List.getElem?_cons_succ, List.getElem?_cons_zero]) <;> rfl)); (focus rfl); (focus (intro w' hS; (try dsimp only at hS); go_split_ands; go_simp; (try (with_reducible rfl)))); simp only [Act.put, List.setIfInBounds_toArray, List.set_cons_zero, List.set_cons_succ]))
        refine orde_e ?_
        obtain ⟨Z, hZ1, hZ2, hZc⟩ : ∃ Z : Int, -1 ≤ Z ∧ Z ≤ 200 ∧ wd.cell? ⟨CB, q3, none⟩ = some (.int .i64 Z) := by
          rcases (show q3 = 0 ∨ q3 = 1 by omega) with e | e
          · rw [e]; exact ⟨(-1), by omega, by omega, blk_cell HC.out⟩
          · rw [e]; exact ⟨(nd.length : Int), by omega, by omega, blk_cell HC.out⟩
        (refine ope_e (o := ?_) ?_ ?_ (fun K hK => ?_); rotate_left 1; (focus ((simp only [List.getElem?_toArray, List.getElem?_cons_succ, List.getElem?_cons_zero]) <;> rfl)); (focus rfl); go_simp)
        refine hK.out _ _ HK.out.cells.1 ?_
        clear hK K hZc
        (try simp only [Act.put, List.setIfInBounds_toArray, List.set_cons_zero, List.set_cons_succ])
        repeat (first | (refine orde_s (o := ?_) ?_ ?_ ?_; rotate_left 1; (focus ((simp only [List.getElem?_toArray, List.getElem?_cons_succ, List.getElem?_cons_zero]) <;> rfl)); (focus rfl); simp only [Act.put, List.setIfInBounds_toArray, List.set_cons_zero, List.set_cons_succ]) | (refine orde_q (o := ?_) (v := ?_) ?_ ?_ ?_ ?_; rotate_left 2; (focus ((simp only [List.getElem?_toArray, List.getElem?_cons_succ, List.getElem?_cons_zero]) <;> rfl)); (focus rfl); (focus (intro w' hS; (try dsimp only at hS); go_split_ands; go_simp; (try (with_reducible rfl)))); simp only [Act.put, List.setIfInBounds_toArray, List.set_cons_zero, List.set_cons_succ]))
        have y1 : wd.cell? ⟨NB, 1, none⟩ = some (.int .i64 root) := HK.out.cells.1 1
        have y2 : wd.frozen? ⟨NB, 1, none⟩ = false := HK.out.cells.2 1
        (refine orde_z (o := ?_) ?_ ?_ (fun K hK => ?_); rotate_left 1; (focus ((simp only [List.getElem?_toArray, List.getElem?_cons_succ, List.getElem?_cons_zero]) <;> rfl)); (focus rfl); go_simp)
        refine hK.out _ _ ?_
        clear hK K y1 y2
        have HK1 := Lib.hid (HK.out.setR Z)
        clear HK
        revert HK1
        generalize wd.setCell ⟨NB, 1, none⟩ (.int .i64 Z) = W9
        intro HK1
        have cb := HK1.out.cells.1
        obtain ⟨rc, rf⟩ := BT.res (HK1.out) HW0.out hR
        go_wp2_with fail
        refine BT.ret (p0 := p) (HK1.out) HW0.out hR ?_ ?_ ?_ ?_ ?_ ?_
        · first | rfl | assumption
        · omega
        · exact ⟨by omega, by omega⟩
        · omega
        · rfl
        · rfl
      · (refine ope_e (o := ?_) ?_ ?_ (fun K hK => ?_); rotate_left 1; (focus ((simp only [List.getElem?_toArray, List.getElem?_cons_succ, List.getElem?_cons_zero]) <;> rfl)); (focus rfl); go_simp)
        refine (pick_bt _ _ _ _ _ _ _ _ _ _ _ _ HK.out (by omega) (by omega)).mono ?_
        rintro e wd ⟨q3, rfl, hk1, hk2, -, -⟩
        refine hK.out _ _ hk2.cells.1 ?_
        clear hK K
        have hq3 : q3 ≤ 1 := by have := hk1.2; omega
        have hqi : (q3 : Int) < 2 := by omega
        have HK := Lib.hid hk2
        clear hk1 hk2
        (try simp only [Act.put, List.setIfInBounds_toArray, List.set_cons_zero, List.set_cons_succ])
        refine orde_e ?_
        (refine ope_e (o := ?_) ?_ ?_ (fun K hK => ?_); rotate_left 1; (focus ((simp only [List.getElem?_toArray, List.getElem?_cons_succ, List.getElem?_cons_zero]) <;> rfl)); (focus rfl); go_simp)
        refine hK.out _ _ ((HK.out).alloc _).cells.1 ?_
        clear hK K
        obtain ⟨CB, hCB⟩ : ∃ CB, CB = wd.heap.size := ⟨_, rfl⟩
        rw [← hCB]
        have hNs := HK.out.sz
        rw [← hCB] at hNs
        have HNB := Lib.hid hNs
        have hA := HK.out.alloc (.cells #[.int .i64 (-1), .int .i64 (nd.length : Int)] 3)
        have hC := blk_new wd (.cells #[.int .i64 (-1), .int .i64 (nd.length : Int)] 3)
        rw [← hCB] at hC
        revert hA hC
        generalize wd.alloc (.cells #[.int .i64 (-1), .int .i64 (nd.length : Int)] 3) = WA
        intro hA hC
        have HK := Lib.hid hA
        have HC := Lib.hid hC
        clear hA hC hCB hNs
        (try simp only [Act.put, List.setIfInBounds_toArray, List.set_cons_zero, List.set_cons_succ])
        repeat (first | (refine orde_s (o := ?_) ?_ ?_ ?_; rotate_left 1; (focus ((simp only [List.getElem?_toArray, List.getElem?_cons_succ, List.getElem?_cons_zero]) <;> rfl)); (focus rfl); simp only [Act.put, List.setIfInBounds_toArray, List.set_cons_zero, List.set_cons_succ]) | (refine orde_q (o := ?_) (v := ?_) ?_ ?_ ?_ ?_; rotate_left 2; (focus ((simp only [List.getElem?_toArray, List.getElem?_cons_succ, List.getElem?_cons_zero]) <;> rfl)); (focus rfl); (focus (intro w' hS; (try dsimp only at hS); go_split_ands; go_simp; (try (with_reducible rfl)))); simp only [Act.put, List.setIfInBounds_toArray, List.set_cons_zero, List.set_cons_succ]))
        refine orde_e ?_
        obtain ⟨Z, hZ1, hZ2, hZc⟩ : ∃ Z : Int, -1 ≤ Z ∧ Z ≤ 200 ∧ WA.cell? ⟨CB, q3, none⟩ = some (.int .i64 Z) := by
          rcases (show q3 = 0 ∨ q3 = 1 by omega) with e | e
          · rw [e]; exact ⟨(-1), by omega, by omega, blk_cell HC.out⟩
          · rw [e]; exact ⟨(nd.length : Int), by omega, by omega, blk_cell HC.out⟩
        (refine ope_e (o := ?_) ?_ ?_ (fun K hK => ?_); rotate_left 1; (focus ((simp only [List.getElem?_toArray, List.getElem?_cons_succ, List.getElem?_cons_zero]) <;> rfl)); (focus rfl); go_simp)
        refine hK.out _ _ HK.out.cells.1 ?_
        clear hK K hZc
        (try simp only [Act.put, List.setIfInBounds_toArray, List.set_cons_zero, List.set_cons_succ])
        repeat (first | (refine orde_s (o := ?_) ?_ ?_ ?_; rotate_left 1; (focus ((simp only [List.getElem?_toArray, List.getElem?_cons_succ, List.getElem?_cons_zero]) <;> rfl)); (focus rfl); simp only [Act.put, List.setIfInBounds_toArray, List.set_cons_zero, List.set_cons_succ]) | (refine orde_q (o := ?_) (v := ?_) ?_ ?_ ?_ ?_; rotate_left 2; (focus ((simp only [List.getElem?_toArray, List.getElem?_cons_succ, List.getElem?_cons_zero]) <;> rfl)); (focus rfl); (focus (intro w' hS; (try dsimp only at hS); go_split_ands; go_simp; (try (with_reducible rfl)))); simp only [Act.put, List.setIfInBounds_toArray, List.set_cons_zero, List.set_cons_succ]))
        have y1 : WA.cell? ⟨NB, 1, none⟩ = some (.int .i64 root) := HK.out.cells.1 1
        have y2 : WA.frozen? ⟨NB, 1, none⟩ = false := HK.out.cells.2 1
        (refine orde_z (o := ?_) ?_ ?_ (fun K hK => ?_); rotate_left 1; (focus ((simp only [List.getElem?_toArray, List.getElem?_cons_succ, List.getElem?_cons_zero]) <;> rfl)); (focus rfl); go_simp)
        refine hK.out _ _ ?_
        clear hK K y1 y2
        have HK1 := Lib.hid (HK.out.setR Z)
        clear HK
        revert HK1
        generalize WA.setCell ⟨NB, 1, none⟩ (.int .i64 Z) = W9
        intro HK1
        have cb := HK1.out.cells.1
        obtain ⟨rc, rf⟩ := BT.res (HK1.out) HW0.out hR
        go_wp2_with fail
        refine BT.ret (p0 := p) (HK1.out) HW0.out hR ?_ ?_ ?_ ?_ ?_ ?_
        · first | rfl | assumption
        · omega
        · exact ⟨by omega, by omega⟩
        · omega
        · rfl
        · rfl
    · go_upto_region 10 with fail
      refine wp_region_E (fun w' => ∀ o, w'.cell? ⟨NB, o, none⟩ = #[Value.slice sb nd.length kb, .int .i64 root][o]?) 18 (.q 0 (.q 1 (.q 2 (.q 4 (.q 5 (.q 6 (.q 7 (.q 9 (.q 10 (.q 11 (.q 12 (.e 3 (.e 8 (.e 13 (.q 14 (.e 15 (.e 16 (.q 17 (.z 18))))))))))))))))))) (by kernel_rfl) (by kernel_rfl) (by kernel_rfl) (by kernel_rfl) (by kernel_rfl) (by kernel_rfl) HK.out.drew.cells.1 ?_
      clear cb
      repeat (first | (refine orde_s (o := ?_) ?_ ?_ ?_; rotate_left 1; (focus ((simp only [List.getElem?_toArray, List.getElem?_cons_succ, List.getElem?_cons_zero]) <;> rfl)); (focus rfl); simp only [Act.put, List.setIfInBounds_toArray, List.set_cons_zero, List.set_cons_succ]) | (refine orde_q (o := ?_) (v := ?_) ?_ ?_ ?_ ?_; rotate_left 2; (focus ((simp only [List.getElem?_toArray, List.getElem?_cons_succ, List.getElem?_cons_zero]) <;> rfl)); (focus rfl); (focus (intro w' hS; (try dsimp only at hS); go_split_ands; go_simp; (try (with_reducible rfl)))); simp only [Act.put, List.setIfInBounds_toArray, List.set_cons_zero, List.set_cons_succ]))
      refine orde_e ?_
      (refine ope_e (o := ?_) ?_ ?_ (fun K hK => ?_); rotate_left 1; (focus ((simp only [List.getElem?_toArray, List.getElem?_cons_succ, List.getElem?_cons_zero]) <;> rfl)); (focus rfl); go_simp)
      refine (pick_bt _ _ _ _ _ _ _ _ _ _ _ _ (HK.out.drew) (by omega) (by omega)).mono ?_
      rintro e wa ⟨q1, rfl, -, hk2, -, -⟩
      refine hK.out _ _ hk2.cells.1 ?_
      clear hK K
      have HK := Lib.hid hk2
      clear hk2
      (try simp only [Act.put, List.setIfInBounds_toArray, List.set_cons_zero, List.set_cons_succ])
      refine orde_e ?_
      (refine ope_e (o := ?_) ?_ ?_ (fun K hK => ?_); rotate_left 1; (focus ((simp only [List.getElem?_toArray, List.getElem?_cons_succ, List.getElem?_cons_zero]) <;> rfl)); (focus rfl); go_simp)
      refine (pick_bt _ _ _ _ _ _ _ _ _ _ _ _ (HK.out) (by omega) (by omega)).mono ?_
      rintro e wb ⟨q2, rfl, -, hk2, -, -⟩
      refine hK.out _ _ hk2.cells.1 ?_
      clear hK K
      have HK := Lib.hid hk2
      clear hk2
      (try simp only [Act.put, List.setIfInBounds_toArray, List.set_cons_zero, List.set_cons_succ])
      refine orde_e ?_
      (refine ope_e (o := ?_) ?_ ?_ (fun K hK => ?_); rotate_left 1; (focus ((simp only [List.getElem?_toArray, List.getElem?_cons_succ, List.getElem?_cons_zero]) <;> rfl)); (focus rfl); go_simp)
      refine (pick_bt _ _ _ _ _ _ _ _ _ _ _ _ (HK.out) (by omega) (by omega)).mono ?_
      rintro e wd ⟨q3, rfl, -, hk2, -, -⟩
      refine hK.out _ _ hk2.cells.1 ?_
      clear hK K
      have HK := Lib.hid hk2
      clear hk2
      (try simp only [Act.put, List.setIfInBounds_toArray, List.set_cons_zero, List.set_cons_succ])
      repeat (first | (refine orde_s (o := ?_) ?_ ?_ ?_; rotate_left 1; (focus ((simp only [List.getElem?_toArray, List.getElem?_cons_succ, List.getElem?_cons_zero]) <;> rfl)); (focus rfl); simp only [Act.put, List.setIfInBounds_toArray, List.set_cons_zero, List.set_cons_succ]) | (refine orde_q (o := ?_) (v := ?_) ?_ ?_ ?_ ?_; rotate_left 2; (focus ((simp only [List.getElem?_toArray, List.getElem?_cons_succ, List.getElem?_cons_zero]) <;> rfl)); (focus rfl); (focus (intro w' hS; (try dsimp only at hS); go_split_ands; go_simp; (try (with_reducible rfl)))); simp only [Act.put, List.setIfInBounds_toArray, List.set_cons_zero, List.set_cons_succ]))
      refine orde_e ?_
      (refine ope_e (o := ?_) ?_ ?_ (fun K hK => ?_); rotate_left 1; (focus ((simp only [List.getElem?_toArray, List.getElem?_cons_succ, List.getElem?_cons_zero]) <;> rfl)); (focus rfl); go_simp)
      have hA := (HK.out).alloc (.cells #[.int .i64 (q1 : Int), .int .i64 (q2 : Int), .int .i64 (q3 : Int)] 29)
      have hs := Sl.new wd #[.int .i64 (q1 : Int), .int .i64 (q2 : Int), .int .i64 (q3 : Int)] 29
      revert hA hs
      generalize (wd).alloc (.cells #[.int .i64 (q1 : Int), .int .i64 (q2 : Int), .int .i64 (q3 : Int)] 29) = WB
      intro hA hs
      refine hK.out _ _ hA.cells.1 ?_
      clear hK K
      have HA := Lib.hid (And.intro hA hs)
      clear hA hs
      (try simp only [Act.put, List.setIfInBounds_toArray, List.set_cons_zero, List.set_cons_succ])
      refine orde_e ?_
      (refine ope_e (o := ?_) ?_ ?_ (fun K hK => ?_); rotate_left 1; (focus ((simp only [List.getElem?_toArray, List.getElem?_cons_succ, List.getElem?_cons_zero]) <;> rfl)); (focus rfl))
      refine wp_app (.tmp 46) (.tmp 60) rfl elem_node HA.out.1.own rfl rfl (by simp) HA.out.2 (by simp [Value.oneCell']) (nd.length + 1) rfl _ rfl (by unfold maxLen; omega) (by omega) HA.out.1.sz ?_
      intro s6 c6 W2 h6 hb6 hg6 hob6
      obtain ⟨hB6, nd', e1, hK1⟩ := HA.out.1.push (g := ⟨(q1 : Int), (q2 : Int), (q3 : Int)⟩) h6 rfl hg6
      refine hK.out _ _ (blk_all hB6).1 ?_
      clear hK K
      have y1 : W2.cell? ⟨NB, 0, none⟩ = some (.slice sb nd.length kb) := blk_cell hB6
      have y2 : W2.frozen? ⟨NB, 0, none⟩ = false := blk_free hB6
      have HK1 := Lib.hid hK1
      clear h6 hb6 hg6 hob6 hB6 hK1
      (try simp only [Act.put, List.setIfInBounds_toArray, List.set_cons_zero, List.set_cons_succ])
      repeat (first | (refine orde_s (o := ?_) ?_ ?_ ?_; rotate_left 1; (focus ((simp only [List.getElem?_toArray, List.getElem?_cons_succ, List.getElem?_cons_zero]) <;> rfl)); (focus rfl); simp only [Act.put, List.setIfInBounds_toArray, List.set_cons_zero, List.set_cons_succ]) | (refine orde_q (o := ?_) (v := ?_) ?_ ?_ ?_ ?_; rotate_left 2; (focus ((simp only [List.getElem?_toArray, List.getElem?_cons_succ, List.getElem?_cons_zero]) <;> rfl)); (focus rfl); (focus (intro w' hS; (try dsimp only at hS); go_split_ands; go_simp; (try (with_reducible rfl)))); simp only [Act.put, List.setIfInBounds_toArray, List.set_cons_zero, List.set_cons_succ]))
      (refine orde_z (o := ?_) ?_ ?_ (fun K hK => ?_); rotate_left 1; (focus ((simp only [List.getElem?_toArray, List.getElem?_cons_succ, List.getElem?_cons_zero]) <;> rfl)); (focus rfl); go_simp)
      refine hK.out _ _ ?_
      clear hK K y1 y2
      revert HK1
      generalize W2.setCell ⟨NB, 0, none⟩ (.slice s6 (nd.length + 1) c6) = W9
      intro HK1
      have cb := HK1.out.cells.1
      obtain ⟨rc, rf⟩ := BT.res (HK1.out) HW0.out hR
      go_wp2_with fail
      refine BT.ret (p0 := p) (HK1.out) HW0.out hR ?_ ?_ ?_ ?_ ?_ ?_
      · first | rfl | assumption
      · omega
      · exact ⟨by omega, by omega⟩
      · omega
      · rfl
      · rfl
    · go_upto_region 12 with fail
      refine wp_region_E (fun w' => ∀ o, w'.cell? ⟨NB, o, none⟩ = #[Value.slice sb nd.length kb, .int .i64 root][o]?) 11 (.q 0 (.q 1 (.q 3 (.two 2 (.e 4 (.q 5 (.e 6 (.q 7 (.e 8 (.e 9 (.q 10 (.z 11)))))))) 4 (.e 2 (.q 5 (.e 6 (.q 7 (.e 8 (.e 9 (.q 10 (.z 11))))))))))))  (by kernel_rfl) (by kernel_rfl) (by kernel_rfl) (by kernel_rfl) (by kernel_rfl) (by kernel_rfl) HK.out.drew.cells.1 ?_
      have hD := HK.out.drew
      clear HK cb
      revert hD
      generalize w9.drew = wb
      intro hD
      have HK := Lib.hid hD
      clear hD
      repeat (first | (refine orde_s (o := ?_) ?_ ?_ ?_; rotate_left 1; (focus ((simp only [List.getElem?_toArray, List.getElem?_cons_succ, List.getElem?_cons_zero]) <;> rfl)); (focus rfl); simp only [Act.put, List.setIfInBounds_toArray, List.set_cons_zero, List.set_cons_succ]) | (refine orde_q (o := ?_) (v := ?_) ?_ ?_ ?_ ?_; rotate_left 2; (focus ((simp only [List.getElem?_toArray, List.getElem?_cons_succ, List.getElem?_cons_zero]) <;> rfl)); (focus rfl); (focus (intro w' hS; (try dsimp only at hS); go_split_ands; go_simp; (try (with_reducible rfl)))); simp only [Act.put, List.setIfInBounds_toArray, List.set_cons_zero, List.set_cons_succ]))
      refine orde_two ?_ ?_
      · (refine ope_e (o := ?_) ?_ ?_ (fun K hK => ?_); rotate_left 1; (focus ((simp only [List.getElem?_toArray, List.getElem?_cons_succ, List.getElem?_cons_zero]) <;> rfl)); (focus rfl); go_simp)
        refine hK.out _ _ ((HK.out).alloc _).cells.1 ?_
        clear hK K
        obtain ⟨CB, hCB⟩ : ∃ CB, CB = wb.heap.size := ⟨_, rfl⟩
        rw [← hCB]
        have hNs := HK.out.sz
        rw [← hCB] at hNs
        have HNB := Lib.hid hNs
        have hA := HK.out.alloc (.cells #[.int .i64 (-1), .int .i64 7] 3)
        have hC := blk_new wb (.cells #[.int .i64 (-1), .int .i64 7] 3)
        rw [← hCB] at hC
        revert hA hC
        generalize wb.alloc (.cells #[.int .i64 (-1), .int .i64 7] 3) = WA
        intro hA hC
        have HK := Lib.hid hA
        have HC := Lib.hid hC
        clear hA hC hCB hNs
        (try simp only [Act.put, List.setIfInBounds_toArray, List.set_cons_zero, List.set_cons_succ])
        refine orde_e ?_
        (refine ope_e (o := ?_) ?_ ?_ (fun K hK => ?_); rotate_left 1; (focus ((simp only [List.getElem?_toArray, List.getElem?_cons_succ, List.getElem?_cons_zero]) <;> rfl)); (focus rfl); go_simp)
        refine (pick_bt _ _ _ _ _ _ _ _ _ _ _ _ HK.out (by omega) (by omega)).mono ?_
        rintro e wd ⟨q3, rfl, hk1, hk2, hk3, -⟩
        refine hK.out _ _ hk2.cells.1 ?_
        clear hK K
        have hq3 : q3 ≤ 1 := by have := hk1.2; omega
        have hqi : (q3 : Int) < 2 := by omega
        have hblk := (hk3.block _ (blk_lt HC.out) (by have h1 := HK.out.hR; have h2 := HNB.out; simp; omega)).trans HC.out
        have HK := Lib.hid hk2
        have HC := Lib.hid hblk
        clear hk1 hk2 hk3 hblk
        (try simp only [Act.put, List.setIfInBounds_toArray, List.set_cons_zero, List.set_cons_succ])
        repeat (first | (refine orde_s (o := ?_) ?_ ?_ ?_; rotate_left 1; (focus ((simp only [List.getElem?_toArray, List.getElem?_cons_succ, List.getElem?_cons_zero]) <;> rfl)); (focus rfl); simp only [Act.put, List.setIfInBounds_toArray, List.set_cons_zero, List.set_cons_succ]) | (refine orde_q (o := ?_) (v := ?_) ?_ ?_ ?_ ?_; rotate_left 2; (focus ((simp only [List.getElem?_toArray, List.getElem?_cons_succ, List.getElem?_cons_zero]) <;> rfl)); (focus rfl); (focus (intro w' hS; (try dsimp only at hS); go_split_ands; go_simp; (try (with_reducible rfl)))); simp only [Act.put, List.setIfInBounds_toArray, List.set_cons_zero, List.set_cons_succ]))
        refine orde_e ?_
        obtain ⟨Z, hZ1, hZ2, hZc⟩ : ∃ Z : Int, -1 ≤ Z ∧ Z ≤ 200 ∧ wd.cell? ⟨CB, q3, none⟩ = some (.int .i64 Z) := by
          rcases (show q3 = 0 ∨ q3 = 1 by omega) with e | e
          · rw [e]; exact ⟨(-1), by omega, by omega, blk_cell HC.out⟩
          · rw [e]; exact ⟨7, by omega, by omega, blk_cell HC.out⟩
        (refine ope_e (o := ?_) ?_ ?_ (fun K hK => ?_); rotate_left 1; (focus ((simp only [List.getElem?_toArray, List.getElem?_cons_succ, List.getElem?_cons_zero]) <;> rfl)); (focus rfl); go_simp)
        refine hK.out _ _ HK.out.cells.1 ?_
        clear hK K hZc
        (try simp only [Act.put, List.setIfInBounds_toArray, List.set_cons_zero, List.set_cons_succ])
        repeat (first | (refine orde_s (o := ?_) ?_ ?_ ?_; rotate_left 1; (focus ((simp only [List.getElem?_toArray, List.getElem?_cons_succ, List.getElem?_cons_zero]) <;> rfl)); (focus rfl); simp only [Act.put, List.setIfInBounds_toArray, List.set_cons_zero, List.set_cons_succ]) | (refine orde_q (o := ?_) (v := ?_) ?_ ?_ ?_ ?_; rotate_left 2; (focus ((simp only [List.getElem?_toArray, List.getElem?_cons_succ, List.getElem?_cons_zero]) <;> rfl)); (focus rfl); (focus (intro w' hS; (try dsimp only at hS); go_split_ands; go_simp; (try (with_reducible rfl)))); simp only [Act.put, List.setIfInBounds_toArray, List.set_cons_zero, List.set_cons_succ]))
        refine orde_e ?_
        (refine ope_e (o := ?_) ?_ ?_ (fun K hK => ?_); rotate_left 1; (focus ((simp only [List.getElem?_toArray, List.getElem?_cons_succ, List.getElem?_cons_zero]) <;> rfl)); (focus rfl); go_simp)
        have hA := (HK.out).alloc (.cells #[.int .i64 Z, .int .i64 0, .int .i64 1] 29)
        have hs := Sl.new wd #[.int .i64 Z, .int .i64 0, .int .i64 1] 29
        revert hA hs
        generalize (wd).alloc (.cells #[.int .i64 Z, .int .i64 0, .int .i64 1] 29) = WB
        intro hA hs
        refine hK.out _ _ hA.cells.1 ?_
        clear hK K
        have HA := Lib.hid (And.intro hA hs)
        clear hA hs
        (try simp only [Act.put, List.setIfInBounds_toArray, List.set_cons_zero, List.set_cons_succ])
        refine orde_e ?_
        (refine ope_e (o := ?_) ?_ ?_ (fun K hK => ?_); rotate_left 1; (focus ((simp only [List.getElem?_toArray, List.getElem?_cons_succ, List.getElem?_cons_zero]) <;> rfl)); (focus rfl))
        refine wp_app (.tmp 66) (.tmp 73) rfl elem_node HA.out.1.own rfl rfl (by simp) HA.out.2 (by simp [Value.oneCell']) (nd.length + 1) rfl _ rfl (by unfold maxLen; omega) (by omega) HA.out.1.sz ?_
        intro s6 c6 W2 h6 hb6 hg6 hob6
        obtain ⟨hB6, nd', e1, hK1⟩ := HA.out.1.push (g := ⟨Z, 0, 1⟩) h6 rfl hg6
        refine hK.out _ _ (blk_all hB6).1 ?_
        clear hK K
        have y1 : W2.cell? ⟨NB, 0, none⟩ = some (.slice sb nd.length kb) := blk_cell hB6
        have y2 : W2.frozen? ⟨NB, 0, none⟩ = false := blk_free hB6
        have HK1 := Lib.hid hK1
        clear h6 hb6 hg6 hob6 hB6 hK1
        (try simp only [Act.put, List.setIfInBounds_toArray, List.set_cons_zero, List.set_cons_succ])
        repeat (first | (refine orde_s (o := ?_) ?_ ?_ ?_; rotate_left 1; (focus ((simp only [List.getElem?_toArray, List.getElem?_cons_succ, List.getElem?_cons_zero]) <;> rfl)); (focus rfl); simp only [Act.put, List.setIfInBounds_toArray, List.set_cons_zero, List.set_cons_succ]) | (refine orde_q (o := ?_) (v := ?_) ?_ ?_ ?_ ?_; rotate_left 2; (focus ((simp only [List.getElem?_toArray, List.getElem?_cons_succ, List.getElem?_cons_zero]) <;> rfl)); (focus rfl); (focus (intro w' hS; (try dsimp only at hS); go_split_ands; go_simp; (try (with_reducible rfl)))); simp only [Act.put, List.setIfInBounds_toArray, List.set_cons_zero, List.set_cons_succ]))
        (refine orde_z (o := ?_) ?_ ?_ (fun K hK => ?_); rotate_left 1; (focus ((simp only [List.getElem?_toArray, List.getElem?_cons_succ, List.getElem?_cons_zero]) <;> rfl)); (focus rfl); go_simp)
        refine hK.out _ _ ?_
        clear hK K y1 y2
        revert HK1
        generalize W2.setCell ⟨NB, 0, none⟩ (.slice s6 (nd.length + 1) c6) = W9
        intro HK1
        have cb := HK1.out.cells.1
        obtain ⟨rc, rf⟩ := BT.res (HK1.out) HW0.out hR
        go_wp2_with fail
        refine BT.ret (p0 := p) (HK1.out) HW0.out hR ?_ ?_ ?_ ?_ ?_ ?_
        · first | rfl | assumption
        · omega
        · exact ⟨by omega, by omega⟩
        · omega
        · rfl
        · rfl
      · (refine ope_e (o := ?_) ?_ ?_ (fun K hK => ?_); rotate_left 1; (focus ((simp only [List.getElem?_toArray, List.getElem?_cons_succ, List.getElem?_cons_zero]) <;> rfl)); (focus rfl); go_simp)
        refine (pick_bt _ _ _ _ _ _ _ _ _ _ _ _ HK.out (by omega) (by omega)).mono ?_
        rintro e wd ⟨q3, rfl, hk1, hk2, -, -⟩
        refine hK.out _ _ hk2.cells.1 ?_
        clear hK K
        have hq3 : q3 ≤ 1 := by have := hk1.2; omega
        have hqi : (q3 : Int) < 2 := by omega
        have HK := Lib.hid hk2
        clear hk1 hk2
        (try simp only [Act.put, List.setIfInBounds_toArray, List.set_cons_zero, List.set_cons_succ])
        refine orde_e ?_
        (refine ope_e (o := ?_) ?_ ?_ (fun K hK => ?_); rotate_left 1; (focus ((simp only [List.getElem?_toArray, List.getElem?_cons_succ, List.getElem?_cons_zero]) <;> rfl)); (focus rfl); go_simp)
        refine hK.out _ _ ((HK.out).alloc _).cells.1 ?_
        clear hK K
        obtain ⟨CB, hCB⟩ : ∃ CB, CB = wd.heap.size := ⟨_, rfl⟩
        rw [← hCB]
        have hNs := HK.out.sz
        rw [← hCB] at hNs
        have HNB := Lib.hid hNs
        have hA := HK.out.alloc (.cells #[.int .i64 (-1), .int .i64 7] 3)
        have hC := blk_new wd (.cells #[.int .i64 (-1), .int .i64 7] 3)
        rw [← hCB] at hC
        revert hA hC
        generalize wd.alloc (.cells #[.int .i64 (-1), .int .i64 7] 3) = WA
        intro hA hC
        have HK := Lib.hid hA
        have HC := Lib.hid hC
        clear hA hC hCB hNs
        (try simp only [Act.put, List.setIfInBounds_toArray, List.set_cons_zero, List.set_cons_succ])
        repeat (first | (refine orde_s (o := ?_) ?_ ?_ ?_; rotate_left 1; (focus ((simp only [List.getElem?_toArray, List.getElem?_cons_succ, List.getElem?_cons_zero]) <;> rfl)); (focus rfl); simp only [Act.put, List.setIfInBounds_toArray, List.set_cons_zero, List.set_cons_succ]) | (refine orde_q (o := ?_) (v := ?_) ?_ ?_ ?_ ?_; rotate_left 2; (focus ((simp only [List.getElem?_toArray, List.getElem?_cons_succ, List.getElem?_cons_zero]) <;> rfl)); (focus rfl); (focus (intro w' hS; (try dsimp only at hS); go_split_ands; go_simp; (try (with_reducible rfl)))); simp only [Act.put, List.setIfInBounds_toArray, List.set_cons_zero, List.set_cons_succ]))
        refine orde_e ?_
        obtain ⟨Z, hZ1, hZ2, hZc⟩ : ∃ Z : Int, -1 ≤ Z ∧ Z ≤ 200 ∧ WA.cell? ⟨CB, q3, none⟩ = some (.int .i64 Z) := by
          rcases (show q3 = 0 ∨ q3 = 1 by omega) with e | e
          · rw [e]; exact ⟨(-1), by omega, by omega, blk_cell HC.out⟩
          · rw [e]; exact ⟨7, by omega, by omega, blk_cell HC.out⟩
        (refine ope_e (o := ?_) ?_ ?_ (fun K hK => ?_); rotate_left 1; (focus ((simp only [List.getElem?_toArray, List.getElem?_cons_succ, List.getElem?_cons_zero]) <;> rfl)); (focus rfl); go_simp)
        refine hK.out _ _ HK.out.cells.1 ?_
        clear hK K hZc
        (try simp only [Act.put, List.setIfInBounds_toArray, List.set_cons_zero, List.set_cons_succ])
        repeat (first | (refine orde_s (o := ?_) ?_ ?_ ?_; rotate_left 1; (focus ((simp only [List.getElem?_toArray, List.getElem?_cons_succ, List.getElem?_cons_zero]) <;> rfl)); (focus rfl); simp only [Act.put, List.setIfInBounds_toArray, List.set_cons_zero, List.set_cons_succ]) | (refine orde_q (o := ?_) (v := ?_) ?_ ?_ ?_ ?_; rotate_left 2; (focus ((simp only [List.getElem?_toArray, List.getElem?_cons_succ, List.getElem?_cons_zero]) <;> rfl)); (focus rfl); (focus (intro w' hS; (try dsimp only at hS); go_split_ands; go_simp; (try (with_reducible rfl)))); simp only [Act.put, List.setIfInBounds_toArray, List.set_cons_zero, List.set_cons_succ]))
        refine orde_e ?_
        (refine ope_e (o := ?_) ?_ ?_ (fun K hK => ?_); rotate_left 1; (focus ((simp only [List.getElem?_toArray, List.getElem?_cons_succ, List.getElem?_cons_zero]) <;> rfl)); (focus rfl); go_simp)
        have hA := (HK.out).alloc (.cells #[.int .i64 Z, .int .i64 0, .int .i64 1] 29)
        have hs := Sl.new WA #[.int .i64 Z, .int .i64 0, .int .i64 1] 29
        revert hA hs
        generalize (WA).alloc (.cells #[.int .i64 Z, .int .i64 0, .int .i64 1] 29) = WB
        intro hA hs
        refine hK.out _ _ hA.cells.1 ?_
        clear hK K
        have HA := Lib.hid (And.intro hA hs)
        clear hA hs
        (try simp only [Act.put, List.setIfInBounds_toArray, List.set_cons_zero, List.set_cons_succ])
        refine orde_e ?_
        (refine ope_e (o := ?_) ?_ ?_ (fun K hK => ?_); rotate_left 1; (focus ((simp only [List.getElem?_toArray, List.getElem?_cons_succ, List.getElem?_cons_zero]) <;> rfl)); (focus rfl))
        refine wp_app (.tmp 66) (.tmp 73) rfl elem_node HA.out.1.own rfl rfl (by simp) HA.out.2 (by simp [Value.oneCell']) (nd.length + 1) rfl _ rfl (by unfold maxLen; omega) (by omega) HA.out.1.sz ?_
        intro s6 c6 W2 h6 hb6 hg6 hob6
        obtain ⟨hB6, nd', e1, hK1⟩ := HA.out.1.push (g := ⟨Z, 0, 1⟩) h6 rfl hg6
        refine hK.out _ _ (blk_all hB6).1 ?_
        clear hK K
        have y1 : W2.cell? ⟨NB, 0, none⟩ = some (.slice sb nd.length kb) := blk_cell hB6
        have y2 : W2.frozen? ⟨NB, 0, none⟩ = false := blk_free hB6
        have HK1 := Lib.hid hK1
        clear h6 hb6 hg6 hob6 hB6 hK1
        (try simp only [Act.put, List.setIfInBounds_toArray, List.set_cons_zero, List.set_cons_succ])
        repeat (first | (refine orde_s (o := ?_) ?_ ?_ ?_; rotate_left 1; (focus ((simp only [List.getElem?_toArray, List.getElem?_cons_succ, List.getElem?_cons_zero]) <;> rfl)); (focus rfl); simp only [Act.put, List.setIfInBounds_toArray, List.set_cons_zero, List.set_cons_succ]) | (refine orde_q (o := ?_) (v := ?_) ?_ ?_ ?_ ?_; rotate_left 2; (focus ((simp only [List.getElem?_toArray, List.getElem?_cons_succ, List.getElem?_cons_zero]) <;> rfl)); (focus rfl); (focus (intro w' hS; (try dsimp only at hS); go_split_ands; go_simp; (try (with_reducible rfl)))); simp only [Act.put, List.setIfInBounds_toArray, List.set_cons_zero, List.set_cons_succ]))
        (refine orde_z (o := ?_) ?_ ?_ (fun K hK => ?_); rotate_left 1; (focus ((simp only [List.getElem?_toArray, List.getElem?_cons_succ, List.getElem?_cons_zero]) <;> rfl)); (focus rfl); go_simp)
        refine hK.out _ _ ?_
        clear hK K y1 y2
        revert HK1
        generalize W2.setCell ⟨NB, 0, none⟩ (.slice s6 (nd.length + 1) c6) = W9
        intro HK1
        have cb := HK1.out.cells.1
        obtain ⟨rc, rf⟩ := BT.res (HK1.out) HW0.out hR
        go_wp2_with fail
        refine BT.ret (p0 := p) (HK1.out) HW0.out hR ?_ ?_ ?_ ?_ ?_ ?_
        · first | rfl | assumption
        · omega
        · exact ⟨by omega, by omega⟩
        · omega
        · rfl
        · rfl
    · obtain ⟨nd1, e1, ho1⟩ := own_cut HK.out.own (by omega)
      have hcb := (own_cap HK.out.own).1
      have HK1 := Lib.hid (HK.out.setN ho1)
      have cf := HK.out.cells.2
      clear ho1 HK
      go_upto_region 17 with fail
      clear cb cf
      revert HK1
      generalize w9.setCell ⟨NB, 0, none⟩ (.slice sb 1 kb) = W9
      intro HK1
      have cb := HK1.out.cells.1
      obtain ⟨rc, rf⟩ := BT.res (HK1.out) HW0.out hR
      go_wp2_with fail
      refine BT.ret (p0 := p) (HK1.out) HW0.out hR ?_ ?_ ?_ ?_ ?_ ?_
      · first | rfl | assumption
      · omega
      · exact ⟨by omega, by omega⟩
      · omega
      · rfl
      · rfl
    · obtain ⟨g, rfl, hbg, hfz, ⟨u, hu⟩, ⟨cur, hcur⟩, nd1, e1, ho1⟩ := own_var1 HK.out.own (by omega)
      have hneB : NB ≠ g := by
        intro e
        have h2 := HK.out.blk
        rw [e, hcur] at h2; cases h2
      have hgR : W0.heap.size ≤ g := hbg
      have hbl := (Below.refl W0.heap.size w9).setCell (p := ⟨g, 3, none⟩) hgR (.int .i64 1)
      have HK1 : Hid (BT R s c xs W0 NB root nd1 (.slice (some ⟨g, 0, none⟩) nd.length kb) (p4 + 1) (w9.setCell ⟨g, 3, none⟩ (.int .i64 1))) :=
        ⟨blk_set_ne (Ne.symm hneB) HK.out.blk, ho1, HK.out.rd.grown hbl HK.out.hR, HK.out.kp.trans (Kp.of_below hbl), HK.out.hR, HK.out.hB⟩
      clear ho1 HK hcur hbl
      go_upto_region 17 with fail
      clear cb hfz hu
      revert HK1
      generalize w9.setCell ⟨g, 3, none⟩ (.int .i64 1) = W9
      intro HK1
      have cb := HK1.out.cells.1
      obtain ⟨rc, rf⟩ := BT.res (HK1.out) HW0.out hR
      go_wp2_with fail
      refine BT.ret (p0 := p) (HK1.out) HW0.out hR ?_ ?_ ?_ ?_ ?_ ?_
      · first | rfl | assumption
      · omega
      · exact ⟨by omega, by omega⟩
      · omega
      · rfl
      · rfl
    · by_cases hl3 : 2 < nd.length
      · obtain ⟨g, hg⟩ := get_of_lt hl3
        obtain ⟨b, off, rfl, hbw, z1, z2, z3⟩ := (own_sl HK.out.own).node (Below.refl _ _) hg
        go_upto_region 6 with fail
        refine wp_region_E (fun w' => ∀ o, w'.cell? ⟨NB, o, none⟩ = #[Value.slice (some ⟨b, off, none⟩) nd.length kb, .int .i64 root][o]?) 9 (.q 0 (.q 1 (.q 2 (.q 3 (.q 4 (.e 5 (.e 6 (.e 7 (.q 8 (.z 9)))))))))) (by kernel_rfl) (by kernel_rfl) (by kernel_rfl) (by kernel_rfl) (by kernel_rfl) (by kernel_rfl) HK.out.drew.cells.1 ?_
        have hD := HK.out.drew
        have y1 : w9.drew.cell? ⟨b, off + 2 * 3, none⟩ = some (.int .i64 g.v) := z1
        have y2 : w9.drew.cell? ⟨b, off + 2 * 3 + 1, none⟩ = some (.int .i64 g.lo) := z2
        have y3 : w9.drew.cell? ⟨b, off + 2 * 3 + 2, none⟩ = some (.int .i64 g.hi) := z3
        clear HK cb z1 z2 z3
        revert hD y1 y2 y3
        generalize w9.drew = wb
        intro hD z1 z2 z3
        have HK := Lib.hid hD
        clear hD
        repeat (first | (refine orde_s (o := ?_) ?_ ?_ ?_; rotate_left 1; (focus ((simp only [List.getElem?_toArray, List.getElem?_cons_succ, List.getElem?_cons_zero]) <;> rfl)); (focus rfl); simp only [Act.put, List.setIfInBounds_toArray, List.set_cons_zero, List.set_cons_succ]) | (refine orde_q (o := ?_) (v := ?_) ?_ ?_ ?_ ?_; rotate_left 2; (focus ((simp only [List.getElem?_toArray, List.getElem?_cons_succ, List.getElem?_cons_zero]) <;> rfl)); (focus rfl); (focus (intro w' hS; (try dsimp only at hS); go_split_ands; go_simp; (try (with_reducible rfl)))); simp only [Act.put, List.setIfInBounds_toArray, List.set_cons_zero, List.set_cons_succ]))
        refine orde_e ?_
        (refine ope_e (o := ?_) ?_ ?_ (fun K hK => ?_); rotate_left 1; (focus ((simp only [List.getElem?_toArray, List.getElem?_cons_succ, List.getElem?_cons_zero]) <;> rfl)); (focus rfl); go_simp)
        refine hK.out _ _ HK.out.cells.1 ?_
        clear hK K z1 z2 z3
        (try simp only [Act.put, List.setIfInBounds_toArray, List.set_cons_zero, List.set_cons_succ])
        refine orde_e ?_
        (refine ope_e (o := ?_) ?_ ?_ (fun K hK => ?_); rotate_left 1; (focus ((simp only [List.getElem?_toArray, List.getElem?_cons_succ, List.getElem?_cons_zero]) <;> rfl)); (focus rfl); go_simp)
        have hA := (HK.out).alloc (.cells #[.int .i64 g.v, .int .i64 g.lo, .int .i64 g.hi] 29)
        have hs := Sl.new wb #[.int .i64 g.v, .int .i64 g.lo, .int .i64 g.hi] 29
        revert hA hs
        generalize (wb).alloc (.cells #[.int .i64 g.v, .int .i64 g.lo, .int .i64 g.hi] 29) = WB
        intro hA hs
        refine hK.out _ _ hA.cells.1 ?_
        clear hK K
        have HA := Lib.hid (And.intro hA hs)
        clear hA hs
        (try simp only [Act.put, List.setIfInBounds_toArray, List.set_cons_zero, List.set_cons_succ])
        refine orde_e ?_
        (refine ope_e (o := ?_) ?_ ?_ (fun K hK => ?_); rotate_left 1; (focus ((simp only [List.getElem?_toArray, List.getElem?_cons_succ, List.getElem?_cons_zero]) <;> rfl)); (focus rfl))
        refine wp_app (.tmp 24) (.tmp 29) rfl elem_node HA.out.1.own rfl rfl (by simp) HA.out.2 (by simp [Value.oneCell']) (nd.length + 1) rfl _ rfl (by unfold maxLen; omega) (by omega) HA.out.1.sz ?_
        intro s6 c6 W2 h6 hb6 hg6 hob6
        obtain ⟨hB6, nd', e1, hK1⟩ := HA.out.1.push (g := ⟨g.v, g.lo, g.hi⟩) h6 rfl hg6
        refine hK.out _ _ (blk_all hB6).1 ?_
        clear hK K
        have y1 : W2.cell? ⟨NB, 0, none⟩ = some (.slice (some ⟨b, off, none⟩) nd.length kb) := blk_cell hB6
        have y2 : W2.frozen? ⟨NB, 0, none⟩ = false := blk_free hB6
        have HK1 := Lib.hid hK1
        clear h6 hb6 hg6 hob6 hB6 hK1
        (try simp only [Act.put, List.setIfInBounds_toArray, List.set_cons_zero, List.set_cons_succ])
        repeat (first | (refine orde_s (o := ?_) ?_ ?_ ?_; rotate_left 1; (focus ((simp only [List.getElem?_toArray, List.getElem?_cons_succ, List.getElem?_cons_zero]) <;> rfl)); (focus rfl); simp only [Act.put, List.setIfInBounds_toArray, List.set_cons_zero, List.set_cons_succ]) | (refine orde_q (o := ?_) (v := ?_) ?_ ?_ ?_ ?_; rotate_left 2; (focus ((simp only [List.getElem?_toArray, List.getElem?_cons_succ, List.getElem?_cons_zero]) <;> rfl)); (focus rfl); (focus (intro w' hS; (try dsimp only at hS); go_split_ands; go_simp; (try (with_reducible rfl)))); simp only [Act.put, List.setIfInBounds_toArray, List.set_cons_zero, List.set_cons_succ]))
        (refine orde_z (o := ?_) ?_ ?_ (fun K hK => ?_); rotate_left 1; (focus ((simp only [List.getElem?_toArray, List.getElem?_cons_succ, List.getElem?_cons_zero]) <;> rfl)); (focus rfl); go_simp)
        refine hK.out _ _ ?_
        clear hK K y1 y2
        revert HK1
        generalize W2.setCell ⟨NB, 0, none⟩ (.slice s6 (nd.length + 1) c6) = W9
        intro HK1
        have cb := HK1.out.cells.1
        obtain ⟨rc, rf⟩ := BT.res (HK1.out) HW0.out hR
        go_wp2_with fail
        refine BT.ret (p0 := p) (HK1.out) HW0.out hR ?_ ?_ ?_ ?_ ?_ ?_
        · first | rfl | assumption
        · omega
        · exact ⟨by omega, by omega⟩
        · omega
        · rfl
        · rfl
      · obtain ⟨rc, rf⟩ := BT.res (HK.out) HW0.out hR
        go_wp2_with fail
        refine BT.ret (p0 := p) (HK.out) HW0.out hR ?_ ?_ ?_ ?_ ?_ ?_
        · first | rfl | assumption
        · omega
        · exact ⟨by omega, by omega⟩
        · omega
        · rfl
        · rfl

end Go.Proofs.Ytddmgphlhfilnaa
