import Derived.Test.YtbcolcchchgldaaZZ61V2
import Derived.Test.YtbcolcchchgldaaZZ61L4
import Derived.Test.YtbcolcchchgldaaZZ61OA
import Derived.Laws.OwnMore
import Derived.Deep.DeepCutAuto
import Derived.Deep.RegionWith
namespace Go.Proofs.Ytbcolcchchgldaa
set_option linter.unusedVariables false
set_option linter.unusedSimpArgs false
open Go.RowKit

/-! Part of the proof of one law. -/

def Cir.size (c : Cir) : Int := c.next.length + c.gates.length + c.outs.length

theorem Cir.small {c : Cir} (h : c.validB = true) : c.limits := (c.validB_iff.1 h).lim

theorem CirAt.drewN {w : World} {b : Nat} {inp : Int} {vn vg vo : Value} (h : CirAt w b inp vn vg vo) (n : Nat) : CirAt (w.drewN n) b inp vn vg vo := ⟨h.h0, h.h1, h.h2, h.h3⟩

theorem l20Latch_any (inp : Int) (sn : Option Addr) (nn cn : Nat) (vg vo : Value) (l : Int) (w : World) (hi : -1000000 ≤ inp ∧ inp ≤ 1000000) (hn : nn ≤ 1048576) (hl : 0 ≤ l) (hl2 : l ≤ 1000000000) :
    Calls Try.prog 79 #[.agg #[.int .i64 inp, .slice sn nn cn, vg, vo], .int .i64 l] w fun e w' => e = .returned (.bool (decide (inp < l / 2 ∧ l / 2 < 1 + inp + nn))) ∧ Below w.heap.size w w' := by
  obtain ⟨hi1, hi2⟩ := hi
  go_enter Try.func79, Try.ntmps79
  go_wp2_with (go_at_call 78; refine (l1In_any _ _ _ _).mono ?_; rintro e w' ⟨rfl, rfl⟩)
  go_ret
  refine ⟨ret_bool (by rw [Bool.eq_iff_iff]; simp; omega), by go_grown⟩

/-- Only blocks in S may have turned. -/
structure Chg (S : Nat → Prop) (w w' : World) : Prop where
  os : w'.os = w.os
  tape : w'.tape = w.tape
  output : w'.output = w.output
  size : w.heap.size ≤ w'.heap.size
  block : ∀ k, k < w.heap.size → ¬ S k → w'.heap[k]? = w.heap[k]?

theorem Chg.refl (S : Nat → Prop) (w : World) : Chg S w w := ⟨rfl, rfl, rfl, Nat.le_refl _, fun _ _ _ => rfl⟩

theorem Chg.trans {S : Nat → Prop} {a b c : World} (h : Chg S a b) (k : Chg S b c) : Chg S a c :=
  ⟨k.os.trans h.os, k.tape.trans h.tape, k.output.trans h.output, Nat.le_trans h.size k.size, fun i hi hn => (k.block i (by have := h.size; omega) hn).trans (h.block i hi hn)⟩

theorem Chg.mono {S T : Nat → Prop} {a b : World} (h : Chg S a b) (hs : ∀ k, S k → T k) : Chg T a b := ⟨h.os, h.tape, h.output, h.size, fun k hk hn => h.block k hk fun e => hn (hs k e)⟩

theorem Chg.of_grown {w w' : World} {row : Option Nat} (h : w.grownBy w' row) : Chg (fun k => row = some k) w w' := ⟨h.os, h.tape, h.output, h.size, fun k hk hn => h.block k hk fun e => hn e.symm⟩

theorem Chg.of_below {S : Nat → Prop} {w w' : World} (h : Below w.heap.size w w') : Chg S w w' := ⟨h.os, h.tape, h.output, h.size, fun k hk _ => h.block k hk⟩

theorem Chg.below {S : Nat → Prop} {w w' : World} (h : Chg S w w') {b : Nat} (hb : b ≤ w.heap.size) (hs : ∀ k, k < b → ¬ S k) : Below b w w' := ⟨h.os, h.tape, h.output, h.size, fun k hk => h.block k (by omega) (hs k hk)⟩

theorem Chg.own {S : Nat → Prop} {w w' : World} (h : Chg S w w') {base : Nat} {e : TypeId} {size : Nat} {v : Value} {n : Nat} {xs : List Value} (ho : w.ownsRow base e size v n xs) (hs : ∀ k, v.ownBlock = some k → ¬ S k) : w'.ownsRow base e size v n xs := by
  refine ⟨ho.1, ?_⟩
  rcases ho.2 with hn | ⟨g, cap, cur, rfl, hb', hg, rest⟩
  · exact .inl hn
  · exact .inr ⟨g, cap, cur, rfl, hb', by rw [h.block g (blk_lt hg) (hs g rfl)]; exact hg, rest⟩

theorem Chg.blk {S : Nat → Prop} {w w' : World} (h : Chg S w w') {b : Nat} {x : Obj} (hb : w.heap[b]? = some x) (hs : ¬ S b) : w'.heap[b]? = some x := by
  rw [h.block b (blk_lt hb) hs]; exact hb

theorem own_some {w : World} {base : Nat} {e : TypeId} {size n cap : Nat} {s : Option Addr} {xs : List Value} (h : w.ownsRow base e size (.slice s n cap) n xs) : (s = none ∧ n = 0 ∧ cap = 0) ∨ ∃ g, s = some ⟨g, 0, none⟩ := by
  rcases h.2 with ⟨e, _⟩ | ⟨g, cap', cur, e, _⟩
  · simp only [Value.slice.injEq] at e; exact .inl e
  · simp only [Value.slice.injEq] at e; exact .inr ⟨g, e.1⟩

/-- The copy of a circuit, block by block. -/
structure CirOwn (w : World) (base : Nat) (c : Cir) (vn vg vo : Value) : Prop where
  n : w.ownsRow base 3 1 vn c.next.length (ints c.next)
  g : w.ownsRow base 38 2 vg c.gates.length (gcells c.gates)
  o : w.ownsRow base 3 1 vo c.outs.length (ints c.outs)
  ne : ∀ k, vn.ownBlock = some k → vo.ownBlock ≠ some k
  l1 : c.next.length ≤ 1048576
  l2 : c.gates.length ≤ 1048576
  l3 : c.outs.length ≤ 1048576

theorem own_ty {w : World} {base base' : Nat} {e e' : TypeId} {size size' : Nat} {v v' : Value} {n n' : Nat} {xs xs' : List Value} (h : w.ownsRow base e size v n xs) (h' : w.ownsRow base' e' size' v' n' xs') (he : e ≠ e') {k : Nat} (hk : v.ownBlock = some k) : v'.ownBlock ≠ some k := by
  intro hk'
  rcases h.2 with ⟨rfl, _⟩ | ⟨g, cap, cur, rfl, _, hg, _⟩
  · cases hk
  · rcases h'.2 with ⟨rfl, _⟩ | ⟨g', cap', cur', rfl, _, hg', _⟩
    · cases hk'
    · simp only [Value.ownBlock, Option.some.injEq] at hk hk'
      subst hk; subst hk'
      rw [hg] at hg'
      simp only [Option.some.injEq, Obj.cells.injEq] at hg'
      exact he hg'.2.1

theorem valid_gate {c : Cir} (h : c.valid) {k : Nat} {g : Gt} (hg : c.gates[k]? = some g) : (0 ≤ g.a ∧ g.a / 2 < c.first + k) ∧ 0 ≤ g.b ∧ g.b / 2 < c.first + k := by
  have := gatesP_at h.gates hg
  unfold litP at this; omega

theorem valid_first {c : Cir} (h : c.valid) : 1 ≤ c.first ∧ c.first ≤ 8 ∧ c.vars = c.first + c.gates.length ∧ c.gates.length ≤ 14 := by
  have := h.lim
  unfold Cir.limits at this
  unfold Cir.first Cir.vars; omega

theorem own_tyb {w : World} {base : Nat} {e : TypeId} {size n : Nat} {v : Value} {xs : List Value} (h : w.ownsRow base e size v n xs) {b : Nat} {arr : Array Value} {t : TypeId} {fz : Nat × Nat} (hb : w.heap[b]? = some (.cells arr t fz)) (he : e ≠ t) : v.ownBlock ≠ some b := by
  intro hk
  rcases h.2 with ⟨rfl, _⟩ | ⟨g, cap, cur, rfl, _, hg, _⟩
  · cases hk
  · simp only [Value.ownBlock, Option.some.injEq] at hk
    subst hk
    rw [hg] at hb
    simp only [Option.some.injEq, Obj.cells.injEq] at hb
    exact he hb.2.1

/-- A slice of slices of Booleans reads as these rows. -/
def SlB (w : World) (s : Option Addr) (rows : List (List Bool)) : Prop :=
  ∃ vs : List Value, vs.length = rows.length ∧ Sl w s vs ∧ ∀ (i : Nat) (r : List Bool), rows[i]? = some r → ∃ si ci, vs[i]? = some (Value.slice si r.length ci) ∧ Sl w si (bools r)

theorem SlB.row {w wr : World} {s : Option Addr} {rows : List (List Bool)} (h : SlB w s rows) (hbl : Below w.heap.size w wr) {k : Nat} {r : List Bool} (hr : rows[k]? = some r) :
    ∃ b off si ci, s = some ⟨b, off, none⟩ ∧ b < w.heap.size ∧ wr.cell? ⟨b, off + k, none⟩ = some (.slice si r.length ci) ∧ Sl w si (bools r) := by
  obtain ⟨vs, hv, hs, hrow⟩ := h
  obtain ⟨si, ci, hvk, hsi⟩ := hrow k r hr
  obtain ⟨b, off, rfl, hbw, hcs⟩ := hs.at (k := k) (List.getElem?_eq_some_iff.1 hvk).1
  exact ⟨b, off, si, ci, rfl, hbw, by rw [hbl.cell (by exact hbw)]; exact hcs _ _ hvk, hsi⟩

theorem SlB.mono {w w' : World} {s : Option Addr} {rows : List (List Bool)} (h : SlB w s rows) (hb : Below w.heap.size w w') : SlB w' s rows := by
  obtain ⟨vs, hv, hs, hrow⟩ := h
  exact ⟨vs, hv, hs.mono hb, fun i r hr => let ⟨si, ci, h1, h2⟩ := hrow i r hr; ⟨si, ci, h1, h2.mono hb⟩⟩

/-- Rows of Booleans that the call made: each in a block of its own. -/
structure OwnSB (w : World) (base : Nat) (v : Value) (vs : List Value) (rows : List (List Bool)) : Prop where
  out : w.ownsRow base 39 1 v rows.length vs
  row : ∀ (i : Nat) (u : Value) (r : List Bool), vs[i]? = some u → rows[i]? = some r → w.ownsRow base 4 1 u r.length (bools r)
  inj : ∀ (i j : Nat) (u u' : Value) (k : Nat), vs[i]? = some u → vs[j]? = some u' → u.ownBlock = some k → u'.ownBlock = some k → i = j

theorem OwnSB.len {w : World} {base : Nat} {v : Value} {vs : List Value} {rows : List (List Bool)} (h : OwnSB w base v vs rows) : vs.length = rows.length := by simpa using h.out.1

theorem OwnSB.get {w : World} {base : Nat} {v : Value} {vs : List Value} {rows : List (List Bool)} (h : OwnSB w base v vs rows) {i : Nat} {r : List Bool} (hr : rows[i]? = some r) : ∃ u, vs[i]? = some u :=
  get_of_lt (by rw [h.len]; exact (List.getElem?_eq_some_iff.1 hr).1)

theorem OwnSB.rget {w : World} {base : Nat} {v : Value} {vs : List Value} {rows : List (List Bool)} (h : OwnSB w base v vs rows) {i : Nat} {u : Value} (hu : vs[i]? = some u) : ∃ r, rows[i]? = some r :=
  get_of_lt (by rw [← h.len]; exact (List.getElem?_eq_some_iff.1 hu).1)

theorem OwnSB.slb {w : World} {base : Nat} {s : Option Addr} {c : Nat} {vs : List Value} {rows : List (List Bool)} (h : OwnSB w base (.slice s rows.length c) vs rows) : SlB w s rows := by
  refine ⟨vs, h.len, own_sl h.out, fun i r hr => ?_⟩
  obtain ⟨u, hu⟩ := h.get hr
  have ho := h.row i u r hu hr
  obtain ⟨si, ci, rfl⟩ := own_shape ho
  exact ⟨si, ci, hu, own_sl ho⟩

theorem OwnSB.below {w w' : World} {base : Nat} {v : Value} {vs : List Value} {rows : List (List Bool)} (h : OwnSB w base v vs rows) (hb : Below w.heap.size w w') : OwnSB w' base v vs rows :=
  ⟨own_below h.out hb, fun i u r h1 h2 => own_below (h.row i u r h1 h2) hb, h.inj⟩

theorem OwnSB.nil (w : World) (base : Nat) : OwnSB w base (.slice none 0 0) [] [] := ⟨World.ownsRow_nil _ _ _ _, by simp, by simp⟩

theorem OwnSB.chg {S : Nat → Prop} {w w' : World} {base : Nat} {v : Value} {vs : List Value} {rows : List (List Bool)} (h : OwnSB w base v vs rows) (hc : Chg S w w') (hs : ∀ k, base ≤ k → ¬ S k) : OwnSB w' base v vs rows :=
  ⟨hc.own h.out (fun k hk => hs k (own_blk h.out hk).1), fun i u r h1 h2 => hc.own (h.row i u r h1 h2) (fun k hk => hs k (own_blk (h.row i u r h1 h2) hk).1), h.inj⟩

/-- One row more. -/
theorem OwnSB.push {w w2 : World} {base : Nat} {v v' u : Value} {vs : List Value} {rows : List (List Bool)} {r : List Bool} (h : OwnSB w base v vs rows) (hu : w.ownsRow base 4 1 u r.length (bools r))
    (hne : ∀ (k : Nat) (u' : Value), u.ownBlock = some k → u' ∈ vs → u'.ownBlock ≠ some k) (hg : w.grownBy w2 v.ownBlock) (ho : w2.ownsRow base 39 1 v' (rows.length + 1) (vs ++ [u])) : OwnSB w2 base v' (vs ++ [u]) (rows ++ [r]) := by
  have keep : ∀ (u : Value) (r : List Bool), w.ownsRow base 4 1 u r.length (bools r) → w2.ownsRow base 4 1 u r.length (bools r) := fun u r hb =>
    (Chg.of_grown hg).own hb (fun k hk e => own_ty hb h.out (by decide) hk e)
  refine ⟨by simpa using ho, fun i x q h1 h2 => ?_, fun i j x x' k h1 h2 h3 h4 => ?_⟩
  · by_cases hlt : i < rows.length
    · rw [List.getElem?_append_left (by rw [h.len]; exact hlt)] at h1
      rw [List.getElem?_append_left hlt] at h2
      exact keep x q (h.row i x q h1 h2)
    · rw [List.getElem?_append_right (by rw [h.len]; omega), h.len] at h1
      rw [List.getElem?_append_right (by omega)] at h2
      obtain ⟨e, rfl⟩ : i - rows.length = 0 ∧ x = u := by
        cases hh : i - rows.length with
        | zero => rw [hh] at h1; simp at h1; exact ⟨rfl, h1.symm⟩
        | succ m => rw [hh] at h1; simp at h1
      rw [e] at h2
      simp at h2
      subst h2
      exact keep _ _ hu
  · have mem : ∀ (i : Nat) (x : Value), (vs ++ [u])[i]? = some x → (i < vs.length ∧ vs[i]? = some x) ∨ (i = vs.length ∧ x = u) := fun i x hx => by
      by_cases hlt : i < vs.length
      · rw [List.getElem?_append_left hlt] at hx; exact .inl ⟨hlt, hx⟩
      · rw [List.getElem?_append_right (by omega)] at hx
        cases hh : i - vs.length with
        | zero => rw [hh] at hx; simp at hx; exact .inr ⟨by omega, hx.symm⟩
        | succ m => rw [hh] at hx; simp at hx
    rcases mem i x h1 with ⟨l1, e1⟩ | ⟨l1, e1⟩ <;> rcases mem j x' h2 with ⟨l2, e2⟩ | ⟨l2, e2⟩
    · exact h.inj i j x x' k e1 e2 h3 h4
    · subst e2; exact absurd h3 (hne k x h4 (List.mem_of_getElem? e1))
    · subst e1; exact absurd h4 (hne k x' h3 (List.mem_of_getElem? e2))
    · omega

theorem OwnSB.slb' {w : World} {base n : Nat} {s : Option Addr} {c : Nat} {vs : List Value} {rows : List (List Bool)} (h : OwnSB w base (.slice s n c) vs rows) (hl : rows.length = n) : SlB w s rows := by
  subst hl; exact h.slb

/-- A circuit's literals are small. -/
theorem Cir.gate_lit {c : Cir} (h : c.validB = true) {k : Nat} {g : Gt} (hg : c.gates[k]? = some g) : 0 ≤ g.a ∧ g.a ≤ 1000 ∧ 0 ≤ g.b ∧ g.b ≤ 1000 := by
  have hv := c.validB_iff.1 h
  obtain ⟨ha, hb, hc, hd, he⟩ := hv.lim
  have hk := (List.getElem?_eq_some_iff.1 hg).1
  have := gatesP_at hv.gates hg
  unfold litP Cir.first at this
  omega

def latchLit (c : Cir) (l : Int) : Prop := c.inp < l / 2 ∧ l / 2 < 1 + c.inp + c.next.length

instance (c : Cir) (l : Int) : Decidable (latchLit c l) := inferInstanceAs (Decidable (_ ∧ _))

def canRetimeB (c : Cir) (i : Int) : Bool := c.validB && (decide (0 ≤ i ∧ i < c.gates.length ∧ c.next.length < 3 ∧ c.gates.length < 14) && match c.gates[i.toNat]? with
  | some g => decide (latchLit c g.a ∧ latchLit c g.b)
  | none => false)

set_option maxRecDepth 100000 in
set_option maxHeartbeats 800000 in
theorem CanRetime_s (v : Value) (c : Cir) (i : Int) (w : World) (h : CirV w v c) :
    Calls Try.prog 25 #[v, .int .i64 i] w fun e w' => e = .returned (.bool (canRetimeB c i)) ∧ Below w.heap.size w w' := by
  obtain ⟨sn, cn, sg, cg, so, co, hv, h1, h2, h3, hl1, hl2, hl3⟩ := h
  have HC : Hid ((∀ w', Below w.heap.size w w' → CirV w' v c) ∧ Sl w sg (gcells c.gates)) := ⟨fun w' hb => CirV.mono ⟨sn, cn, sg, cg, so, co, hv, h1, h2, h3, hl1, hl2, hl3⟩ hb, h2⟩
  subst hv
  clear h1 h2 h3
  have hL : Below w.heap.size w (w.alloc (.cells #[.int .i64 c.inp, .slice sn c.next.length cn, .slice sg c.gates.length cg, .slice so c.outs.length co] 26)) := by go_grown
  have hN := blk_new w (.cells #[.int .i64 c.inp, .slice sn c.next.length cn, .slice sg c.gates.length cg, .slice so c.outs.length co] 26)
  have HL := Lib.hid (And.intro hL hN)
  clear hL hN
  cases hv : c.validB
  · have hf : canRetimeB c i = false := by simp [canRetimeB, hv]
    have HF := Lib.hid hf
    clear hf
    go_enter Try.func25, Try.ntmps25
    go_wp2_with fail
    refine wp_region_ord (fun w' => ∀ o, w'.cell? ⟨w.heap.size, o, none⟩ = #[Value.int .i64 c.inp, Value.slice sn c.next.length cn, Value.slice sg c.gates.length cg, Value.slice so c.outs.length co][o]?) ((0, false) :: (1, true) :: (2, false) :: (3, false) :: (4, false) :: (5, false) :: (6, false) :: (7, false) :: (8, true) :: (9, false) :: (10, false) :: (11, false) :: (12, false) :: (13, false) :: (14, false) :: (15, false) :: (16, false) :: (17, false) :: (18, true) :: (19, false) :: (20, false) :: (21, false) :: (22, false) :: (23, false) :: (24, false) :: (25, false) :: (26, false) :: (27, false) :: (28, true) :: (29, false) :: (30, false) :: (31, false) :: (32, false) :: (33, false) :: (34, false) :: (35, false) :: (36, false) :: (37, false) :: (38, false) :: (39, false) :: (40, false) :: (41, false) :: (42, false) :: [])
      (by kernel_rfl) (by kernel_rfl) (by kernel_rfl) (by kernel_rfl) (blk_all HL.out.2).1 ?_
    repeat (first | (refine ord_es (o := ?_) ?_ ?_ (by assumption) ?_; rotate_left 1; (focus ((simp only [zD, zE, zF]) <;> rfl)); (focus rfl); simp only [Act.put, zA, zB, zC]) | (refine ord_s (o := ?_) ?_ ?_ ?_; rotate_left 1; (focus ((simp only [zD, zE, zF]) <;> rfl)); (focus rfl); simp only [Act.put, zA, zB, zC]) | (refine ord_q (o := ?_) (v := ?_) ?_ ?_ ?_ ?_; rotate_left 2; (focus ((simp only [zD, zE, zF]) <;> rfl)); (focus rfl); (focus (intro w' hS; (try dsimp only at hS); go_split_ands; go_simp; (try (with_reducible rfl)))); simp only [Act.put, zA, zB, zC]))
    (refine ord_e (o := ?_) ?_ ?_ (fun K hK => ?_); rotate_left 1; (focus ((simp only [zD, zE, zF]) <;> rfl)); (focus rfl); go_simp)
    refine (CircuitValid_s _ _ _ (HC.out.1 _ HL.out.1.drew)).mono ?_
    rintro e w1 ⟨rfl, hq⟩
    have W1 := Lib.hid (And.intro (blk_below hq (blk_lt HL.out.2) HL.out.2) (HL.out.1.drew.trans (hq.mono HL.out.1.size)))
    clear hq
    have hSW := (blk_all W1.out.1).1
    refine hK.out _ _ hSW ?_
    clear hK K
    rw [hv]
    (try simp only [Act.put, zA, zB, zC])
    repeat (first | (refine ord_es (o := ?_) ?_ ?_ (by assumption) ?_; rotate_left 1; (focus ((simp only [zD, zE, zF]) <;> rfl)); (focus rfl); simp only [Act.put, zA, zB, zC]) | (refine ord_s (o := ?_) ?_ ?_ ?_; rotate_left 1; (focus ((simp only [zD, zE, zF]) <;> rfl)); (focus rfl); simp only [Act.put, zA, zB, zC]) | (refine ord_q (o := ?_) (v := ?_) ?_ ?_ ?_ ?_; rotate_left 2; (focus ((simp only [zD, zE, zF]) <;> rfl)); (focus rfl); (focus (intro w' hS; (try dsimp only at hS); go_split_ands; go_simp; (try (with_reducible rfl)))); simp only [Act.put, zA, zB, zC]))
    refine ord_nil ?_
    go_wp2
    go_ret
    exact ⟨ret_bool HF.out.symm, W1.out.2⟩
  · obtain ⟨ha, hb, hc, hd, he⟩ := Cir.small hv
    by_cases hi : 0 ≤ i ∧ i < c.gates.length
    · obtain ⟨k, rfl⟩ : ∃ k : Nat, i = k := ⟨i.toNat, by omega⟩
      obtain ⟨g, hg⟩ := get_of_lt (l := c.gates) (k := k) (by omega)
      have hf : canRetimeB c k = (decide (latchLit c g.a ∧ latchLit c g.b) && decide (c.next.length < 3 ∧ c.gates.length < 14)) := by
        have hk : (k : Int) < c.gates.length := by omega
        rw [Bool.eq_iff_iff]
        simp [canRetimeB, hv, hg]
        exact ⟨fun ⟨h1, h2⟩ => ⟨h2, h1.2⟩, fun ⟨h1, h2⟩ => ⟨⟨by omega, h2⟩, h1⟩⟩
      have hgl := Cir.gate_lit hv hg
      obtain ⟨b, off, rfl, hbw, hz1, hz2⟩ := HC.out.2.gate (Below.refl _ _) hg
      have HF := Lib.hid hf
      have hin : decide ((0 : Int) ≤ (k : Int) ∧ (k : Int) ≤ (c.gates.length : Int) - 1) = true := decide_eq_true (by omega)
      have hlt : k < c.gates.length := by omega
      have hlti : (k : Int) < (c.gates.length : Int) := by omega
      have hwr1 : IntKind.i64.wrap ((c.gates.length : Int) - 1) = (c.gates.length : Int) - 1 := IntWalk.i64_in _ ⟨by omega, by omega⟩
      have hla : Hid (latchLit c g.a ∨ ¬ latchLit c g.a) := Classical.em _
      have hlb : Hid (latchLit c g.b ∨ ¬ latchLit c g.b) := Classical.em _
      clear hf hi hg
      go_enter Try.func25, Try.ntmps25
      go_wp2_with fail
      refine wp_region_ord (fun w' => (∀ o, w'.cell? ⟨w.heap.size, o, none⟩ = #[Value.int .i64 c.inp, Value.slice sn c.next.length cn, Value.slice (some ⟨b, off, none⟩) c.gates.length cg, Value.slice so c.outs.length co][o]?) ∧ w'.cell? ⟨b, off + k * 2, none⟩ = some (.int .i64 g.a) ∧ w'.cell? ⟨b, off + k * 2 + 1, none⟩ = some (.int .i64 g.b)) ((0, false) :: (1, true) :: (2, false) :: (3, false) :: (4, false) :: (5, false) :: (6, false) :: (7, false) :: (8, true) :: (9, false) :: (10, false) :: (11, false) :: (12, false) :: (13, false) :: (14, false) :: (15, false) :: (16, false) :: (17, false) :: (18, true) :: (19, false) :: (20, false) :: (21, false) :: (22, false) :: (23, false) :: (24, false) :: (25, false) :: (26, false) :: (27, false) :: (28, true) :: (29, false) :: (30, false) :: (31, false) :: (32, false) :: (33, false) :: (34, false) :: (35, false) :: (36, false) :: (37, false) :: (38, false) :: (39, false) :: (40, false) :: (41, false) :: (42, false) :: [])
        (by kernel_rfl) (by kernel_rfl) (by kernel_rfl) (by kernel_rfl) ⟨(blk_all HL.out.2).1, (HL.out.1.cell hbw).trans hz1, (HL.out.1.cell hbw).trans hz2⟩ ?_
      repeat (first | (refine ord_es (o := ?_) ?_ ?_ (by assumption) ?_; rotate_left 1; (focus ((simp only [zD, zE, zF]) <;> rfl)); (focus rfl); simp only [Act.put, zA, zB, zC]) | (refine ord_s (o := ?_) ?_ ?_ ?_; rotate_left 1; (focus ((simp only [zD, zE, zF]) <;> rfl)); (focus rfl); simp only [Act.put, zA, zB, zC]) | (refine ord_q (o := ?_) (v := ?_) ?_ ?_ ?_ ?_; rotate_left 2; (focus ((simp only [zD, zE, zF]) <;> rfl)); (focus rfl); (focus (intro w' hS; (try dsimp only at hS); go_split_ands; go_simp; (try (with_reducible rfl)))); simp only [Act.put, zA, zB, zC]))
      (refine ord_e (o := ?_) ?_ ?_ (fun K hK => ?_); rotate_left 1; (focus ((simp only [zD, zE, zF]) <;> rfl)); (focus rfl); go_simp)
      refine (CircuitValid_s _ _ _ (HC.out.1 _ HL.out.1.drew)).mono ?_
      rintro e w1 ⟨rfl, hq⟩
      have W1 := Lib.hid (And.intro (blk_below hq (blk_lt HL.out.2) HL.out.2) (HL.out.1.drew.trans (hq.mono HL.out.1.size)))
      clear hq
      have hSW := And.intro (blk_all W1.out.1).1 (And.intro ((W1.out.2.cell (p := ⟨b, off + k * 2, none⟩) hbw).trans hz1) ((W1.out.2.cell (p := ⟨b, off + k * 2 + 1, none⟩) hbw).trans hz2))
      refine hK.out _ _ hSW ?_
      clear hK K
      rw [hv]
      (try simp only [Act.put, zA, zB, zC])
      repeat (first | (refine ord_es (o := ?_) ?_ ?_ (by assumption) ?_; rotate_left 1; (focus ((simp only [zD, zE, zF]) <;> rfl)); (focus rfl); simp only [Act.put, zA, zB, zC]) | (refine ord_s (o := ?_) ?_ ?_ ?_; rotate_left 1; (focus ((simp only [zD, zE, zF]) <;> rfl)); (focus rfl); simp only [Act.put, zA, zB, zC]) | (refine ord_q (o := ?_) (v := ?_) ?_ ?_ ?_ ?_; rotate_left 2; (focus ((simp only [zD, zE, zF]) <;> rfl)); (focus rfl); (focus (intro w' hS; (try dsimp only at hS); go_split_ands; go_simp; (try (with_reducible rfl)))); simp only [Act.put, zA, zB, zC]))
      (refine ord_e (o := ?_) ?_ ?_ (fun K hK => ?_); rotate_left 1; (focus ((simp only [zD, zE, zF]) <;> rfl)); (focus rfl); go_simp)
      refine (l1In_any _ _ _ _).mono ?_
      rintro e w1' ⟨rfl, rfl⟩
      refine hK.out _ _ hSW ?_
      clear hK K
      rw [hin]
      (try simp only [Act.put, zA, zB, zC])
      repeat (first | (refine ord_es (o := ?_) ?_ ?_ (by assumption) ?_; rotate_left 1; (focus ((simp only [zD, zE, zF]) <;> rfl)); (focus rfl); simp only [Act.put, zA, zB, zC]) | (refine ord_s (o := ?_) ?_ ?_ ?_; rotate_left 1; (focus ((simp only [zD, zE, zF]) <;> rfl)); (focus rfl); simp only [Act.put, zA, zB, zC]) | (refine ord_q (o := ?_) (v := ?_) ?_ ?_ ?_ ?_; rotate_left 2; (focus ((simp only [zD, zE, zF]) <;> rfl)); (focus rfl); (focus (intro w' hS; (try dsimp only at hS); go_split_ands; go_simp; (try (with_reducible rfl)))); simp only [Act.put, zA, zB, zC]))
      (refine ord_e (o := ?_) ?_ ?_ (fun K hK => ?_); rotate_left 1; (focus ((simp only [zD, zE, zF]) <;> rfl)); (focus rfl); go_simp)
      refine (l20Latch_any _ _ _ _ _ _ _ _ (by constructor <;> omega) (by omega) (by omega) (by omega)).mono ?_
      rintro e w2 ⟨rfl, hq⟩
      have W2 := Lib.hid (And.intro (blk_below hq (blk_lt W1.out.1) W1.out.1) (W1.out.2.trans (hq.mono W1.out.2.size)))
      clear hq hSW
      have hSW := And.intro (blk_all W2.out.1).1 (And.intro ((W2.out.2.cell (p := ⟨b, off + k * 2, none⟩) hbw).trans hz1) ((W2.out.2.cell (p := ⟨b, off + k * 2 + 1, none⟩) hbw).trans hz2))
      refine hK.out _ _ hSW ?_
      clear hK K
      rcases hla.out with hA | hA
      · have e1 : decide (c.inp < g.a / 2 ∧ g.a / 2 < 1 + c.inp + (c.next.length : Int)) = true := decide_eq_true hA
        have HA := Lib.hid hA
        clear hA
        rw [e1]
        clear e1
        (try simp only [Act.put, zA, zB, zC])
        repeat (first | (refine ord_es (o := ?_) ?_ ?_ (by assumption) ?_; rotate_left 1; (focus ((simp only [zD, zE, zF]) <;> rfl)); (focus rfl); simp only [Act.put, zA, zB, zC]) | (refine ord_s (o := ?_) ?_ ?_ ?_; rotate_left 1; (focus ((simp only [zD, zE, zF]) <;> rfl)); (focus rfl); simp only [Act.put, zA, zB, zC]) | (refine ord_q (o := ?_) (v := ?_) ?_ ?_ ?_ ?_; rotate_left 2; (focus ((simp only [zD, zE, zF]) <;> rfl)); (focus rfl); (focus (intro w' hS; (try dsimp only at hS); go_split_ands; go_simp; (try (with_reducible rfl)))); simp only [Act.put, zA, zB, zC]))
        (refine ord_e (o := ?_) ?_ ?_ (fun K hK => ?_); rotate_left 1; (focus ((simp only [zD, zE, zF]) <;> rfl)); (focus rfl); go_simp)
        refine (l20Latch_any _ _ _ _ _ _ _ _ (by constructor <;> omega) (by omega) (by omega) (by omega)).mono ?_
        rintro e w3 ⟨rfl, hq⟩
        have W3 := Lib.hid (And.intro (blk_below hq (blk_lt W2.out.1) W2.out.1) (W2.out.2.trans (hq.mono W2.out.2.size)))
        clear hq hSW
        have hSW := And.intro (blk_all W3.out.1).1 (And.intro ((W3.out.2.cell (p := ⟨b, off + k * 2, none⟩) hbw).trans hz1) ((W3.out.2.cell (p := ⟨b, off + k * 2 + 1, none⟩) hbw).trans hz2))
        refine hK.out _ _ hSW ?_
        clear hK K
        rcases hlb.out with hB | hB
        · have e2 : decide (c.inp < g.b / 2 ∧ g.b / 2 < 1 + c.inp + (c.next.length : Int)) = true := decide_eq_true hB
          have HB := Lib.hid hB
          clear hB
          rw [e2]
          clear e2
          (try simp only [Act.put, zA, zB, zC])
          by_cases h3 : (c.next.length : Int) < 3
          · have e3 : decide ((c.next.length : Int) < 3) = true := decide_eq_true h3
            repeat (first | (refine ord_es (o := ?_) ?_ ?_ (by assumption) ?_; rotate_left 1; (focus ((simp only [zD, zE, zF]) <;> rfl)); (focus rfl); simp only [Act.put, zA, zB, zC]) | (refine ord_s (o := ?_) ?_ ?_ ?_; rotate_left 1; (focus ((simp only [zD, zE, zF]) <;> rfl)); (focus rfl); simp only [Act.put, zA, zB, zC]) | (refine ord_q (o := ?_) (v := ?_) ?_ ?_ ?_ ?_; rotate_left 2; (focus ((simp only [zD, zE, zF]) <;> rfl)); (focus rfl); (focus (intro w' hS; (try dsimp only at hS); go_split_ands; go_simp; (try (with_reducible rfl)))); simp only [Act.put, zA, zB, zC]))
            refine ord_nil ?_
            go_wp2
            go_ret
            exact ⟨ret_bool (by rw [HF.out]; rw [Bool.eq_iff_iff]; simp [HA.out, HB.out]; omega), W3.out.2⟩
          · have e3 : decide ((c.next.length : Int) < 3) = false := decide_eq_false h3
            repeat (first | (refine ord_es (o := ?_) ?_ ?_ (by assumption) ?_; rotate_left 1; (focus ((simp only [zD, zE, zF]) <;> rfl)); (focus rfl); simp only [Act.put, zA, zB, zC]) | (refine ord_s (o := ?_) ?_ ?_ ?_; rotate_left 1; (focus ((simp only [zD, zE, zF]) <;> rfl)); (focus rfl); simp only [Act.put, zA, zB, zC]) | (refine ord_q (o := ?_) (v := ?_) ?_ ?_ ?_ ?_; rotate_left 2; (focus ((simp only [zD, zE, zF]) <;> rfl)); (focus rfl); (focus (intro w' hS; (try dsimp only at hS); go_split_ands; go_simp; (try (with_reducible rfl)))); simp only [Act.put, zA, zB, zC]))
            refine ord_nil ?_
            go_wp2
            go_ret
            exact ⟨ret_bool (by rw [HF.out]; rw [Bool.eq_iff_iff]; simp [HA.out, HB.out]; omega), W3.out.2⟩
        · have e2 : decide (c.inp < g.b / 2 ∧ g.b / 2 < 1 + c.inp + (c.next.length : Int)) = false := decide_eq_false hB
          have HB := Lib.hid hB
          clear hB
          rw [e2]
          clear e2
          (try simp only [Act.put, zA, zB, zC])
          repeat (first | (refine ord_es (o := ?_) ?_ ?_ (by assumption) ?_; rotate_left 1; (focus ((simp only [zD, zE, zF]) <;> rfl)); (focus rfl); simp only [Act.put, zA, zB, zC]) | (refine ord_s (o := ?_) ?_ ?_ ?_; rotate_left 1; (focus ((simp only [zD, zE, zF]) <;> rfl)); (focus rfl); simp only [Act.put, zA, zB, zC]) | (refine ord_q (o := ?_) (v := ?_) ?_ ?_ ?_ ?_; rotate_left 2; (focus ((simp only [zD, zE, zF]) <;> rfl)); (focus rfl); (focus (intro w' hS; (try dsimp only at hS); go_split_ands; go_simp; (try (with_reducible rfl)))); simp only [Act.put, zA, zB, zC]))
          refine ord_nil ?_
          go_wp2
          go_ret
          exact ⟨ret_bool (by rw [HF.out]; simp [HB.out]), W3.out.2⟩
      · have e1 : decide (c.inp < g.a / 2 ∧ g.a / 2 < 1 + c.inp + (c.next.length : Int)) = false := decide_eq_false hA
        have HA := Lib.hid hA
        clear hA
        rw [e1]
        clear e1
        (try simp only [Act.put, zA, zB, zC])
        repeat (first | (refine ord_es (o := ?_) ?_ ?_ (by assumption) ?_; rotate_left 1; (focus ((simp only [zD, zE, zF]) <;> rfl)); (focus rfl); simp only [Act.put, zA, zB, zC]) | (refine ord_s (o := ?_) ?_ ?_ ?_; rotate_left 1; (focus ((simp only [zD, zE, zF]) <;> rfl)); (focus rfl); simp only [Act.put, zA, zB, zC]) | (refine ord_q (o := ?_) (v := ?_) ?_ ?_ ?_ ?_; rotate_left 2; (focus ((simp only [zD, zE, zF]) <;> rfl)); (focus rfl); (focus (intro w' hS; (try dsimp only at hS); go_split_ands; go_simp; (try (with_reducible rfl)))); simp only [Act.put, zA, zB, zC]))
        refine ord_nil ?_
        go_wp2
        go_ret
        exact ⟨ret_bool (by rw [HF.out]; simp [HA.out]), W2.out.2⟩
    · have hf : canRetimeB c i = false := by
        simp [canRetimeB]
        intro _ h1 h2
        exact absurd ⟨h1, h2⟩ hi
      have HF := Lib.hid hf
      have hin : decide ((0 : Int) ≤ i ∧ i ≤ (c.gates.length : Int) - 1) = false := decide_eq_false (by omega)
      have hwr1 : IntKind.i64.wrap ((c.gates.length : Int) - 1) = (c.gates.length : Int) - 1 := IntWalk.i64_in _ ⟨by omega, by omega⟩
      clear hf hi
      go_enter Try.func25, Try.ntmps25
      go_wp2_with fail
      refine wp_region_ord (fun w' => ∀ o, w'.cell? ⟨w.heap.size, o, none⟩ = #[Value.int .i64 c.inp, Value.slice sn c.next.length cn, Value.slice sg c.gates.length cg, Value.slice so c.outs.length co][o]?) ((0, false) :: (1, true) :: (2, false) :: (3, false) :: (4, false) :: (5, false) :: (6, false) :: (7, false) :: (8, true) :: (9, false) :: (10, false) :: (11, false) :: (12, false) :: (13, false) :: (14, false) :: (15, false) :: (16, false) :: (17, false) :: (18, true) :: (19, false) :: (20, false) :: (21, false) :: (22, false) :: (23, false) :: (24, false) :: (25, false) :: (26, false) :: (27, false) :: (28, true) :: (29, false) :: (30, false) :: (31, false) :: (32, false) :: (33, false) :: (34, false) :: (35, false) :: (36, false) :: (37, false) :: (38, false) :: (39, false) :: (40, false) :: (41, false) :: (42, false) :: [])
        (by kernel_rfl) (by kernel_rfl) (by kernel_rfl) (by kernel_rfl) (blk_all HL.out.2).1 ?_
      repeat (first | (refine ord_es (o := ?_) ?_ ?_ (by assumption) ?_; rotate_left 1; (focus ((simp only [zD, zE, zF]) <;> rfl)); (focus rfl); simp only [Act.put, zA, zB, zC]) | (refine ord_s (o := ?_) ?_ ?_ ?_; rotate_left 1; (focus ((simp only [zD, zE, zF]) <;> rfl)); (focus rfl); simp only [Act.put, zA, zB, zC]) | (refine ord_q (o := ?_) (v := ?_) ?_ ?_ ?_ ?_; rotate_left 2; (focus ((simp only [zD, zE, zF]) <;> rfl)); (focus rfl); (focus (intro w' hS; (try dsimp only at hS); go_split_ands; go_simp; (try (with_reducible rfl)))); simp only [Act.put, zA, zB, zC]))
      (refine ord_e (o := ?_) ?_ ?_ (fun K hK => ?_); rotate_left 1; (focus ((simp only [zD, zE, zF]) <;> rfl)); (focus rfl); go_simp)
      refine (CircuitValid_s _ _ _ (HC.out.1 _ HL.out.1.drew)).mono ?_
      rintro e w1 ⟨rfl, hq⟩
      have W1 := Lib.hid (And.intro (blk_below hq (blk_lt HL.out.2) HL.out.2) (HL.out.1.drew.trans (hq.mono HL.out.1.size)))
      clear hq
      have hSW := (blk_all W1.out.1).1
      refine hK.out _ _ hSW ?_
      clear hK K
      rw [hv]
      (try simp only [Act.put, zA, zB, zC])
      repeat (first | (refine ord_es (o := ?_) ?_ ?_ (by assumption) ?_; rotate_left 1; (focus ((simp only [zD, zE, zF]) <;> rfl)); (focus rfl); simp only [Act.put, zA, zB, zC]) | (refine ord_s (o := ?_) ?_ ?_ ?_; rotate_left 1; (focus ((simp only [zD, zE, zF]) <;> rfl)); (focus rfl); simp only [Act.put, zA, zB, zC]) | (refine ord_q (o := ?_) (v := ?_) ?_ ?_ ?_ ?_; rotate_left 2; (focus ((simp only [zD, zE, zF]) <;> rfl)); (focus rfl); (focus (intro w' hS; (try dsimp only at hS); go_split_ands; go_simp; (try (with_reducible rfl)))); simp only [Act.put, zA, zB, zC]))
      (refine ord_e (o := ?_) ?_ ?_ (fun K hK => ?_); rotate_left 1; (focus ((simp only [zD, zE, zF]) <;> rfl)); (focus rfl); go_simp)
      refine (l1In_any _ _ _ _).mono ?_
      rintro e w1' ⟨rfl, rfl⟩
      refine hK.out _ _ hSW ?_
      clear hK K
      rw [hin]
      (try simp only [Act.put, zA, zB, zC])
      repeat (first | (refine ord_es (o := ?_) ?_ ?_ (by assumption) ?_; rotate_left 1; (focus ((simp only [zD, zE, zF]) <;> rfl)); (focus rfl); simp only [Act.put, zA, zB, zC]) | (refine ord_s (o := ?_) ?_ ?_ ?_; rotate_left 1; (focus ((simp only [zD, zE, zF]) <;> rfl)); (focus rfl); simp only [Act.put, zA, zB, zC]) | (refine ord_q (o := ?_) (v := ?_) ?_ ?_ ?_ ?_; rotate_left 2; (focus ((simp only [zD, zE, zF]) <;> rfl)); (focus rfl); (focus (intro w' hS; (try dsimp only at hS); go_split_ands; go_simp; (try (with_reducible rfl)))); simp only [Act.put, zA, zB, zC]))
      refine ord_nil ?_
      go_wp2
      go_ret
      exact ⟨ret_bool HF.out.symm, W1.out.2⟩

theorem Sl.src {w : World} {s : Option Addr} {cs : List Value} (h : Sl w s cs) (hp : 0 < cs.length) : ∃ ad, s = some ad ∧ ∀ (j : Nat) (v : Value), cs[j]? = some v → w.cell? (ad.add j) = some v := by
  obtain ⟨b, off, rfl, _, hc⟩ := h.at hp
  exact ⟨_, rfl, fun j v hv => by rw [addr_add]; exact hc j v hv⟩

theorem splice_app {A B C cs : List Value} {off : Nat} (h : A.length = off) (hb : B.length = cs.length) : splice (A ++ (B ++ C)) off cs = A ++ (cs ++ C) := by
  unfold splice
  rw [List.take_left' h, ← List.append_assoc A B C, List.drop_left' (by rw [List.length_append, h, hb])]

theorem splice_vals (V ni nn ng : Nat) (hV : V = 1 + ni + nn + ng) (I S : List Bool) (hI : I.length = ni) (hS : S.length = nn) : splice (splice (bools (List.replicate V false)) 1 (bools I)) (1 + ni) (bools S) = bools ((false :: (I ++ S)) ++ List.replicate ng false) := by
  have e : bools (List.replicate V false) = [Value.bool false] ++ (List.replicate ni (Value.bool false) ++ (List.replicate nn (Value.bool false) ++ List.replicate ng (Value.bool false))) := by
    rw [List.replicate_append_replicate, List.replicate_append_replicate, hV, show 1 + ni + nn + ng = ni + (nn + ng) + 1 from by omega, List.replicate_succ]
    simp [bools]
  rw [e, splice_app (A := [Value.bool false]) (off := 1) rfl (by simp [hI]), ← List.append_assoc, splice_app (by simp [hI]; omega) (by simp [hS])]
  simp [bools]

set_option maxRecDepth 100000 in
set_option maxHeartbeats 1600000 in
theorem evaluate_any (b : Nat) (sn sg : Option Addr) (cn cg : Nat) (vo : Value) (c : Cir) (ss si : Option Addr) (cs ci : Nat) (S I : List Bool) (st : Int) (val : Bool) (w : World)
    (h : CirAt w b c.inp (.slice sn c.next.length cn) (.slice sg c.gates.length cg) vo) (hg : Sl w sg (gcells c.gates)) (hv : c.valid) (hS : Sl w ss (bools S)) (hI : Sl w si (bools I))
    (lS : S.length = c.next.length) (ni : Nat) (lI : I.length = ni) (li : c.inp = ni) (V : Nat) (hV : c.vars = V) (hst : -1 ≤ st) (hst2 : st < V) :
    Calls Try.prog 136 #[.pointer (some ⟨b, 0, none⟩), .slice ss c.next.length cs, .slice si ni ci, .int .i64 st, .bool val] w fun e w' => ∃ g, e = .returned (.slice (some ⟨g, 0, none⟩) V V) ∧
      w'.heap[g]? = some (.cells (bools (valsV st val (stuckB st val (false :: (I ++ S))) c.gates)).toArray 4 (0, 0)) ∧ Below w.heap.size w w' := by
  have HB : Hid (b < w.heap.size) := World.block_lt_of_cell? w _ h.h0
  obtain ⟨f1, f2, f3, f4⟩ := valid_first hv
  obtain ⟨q1, q2, q3, q4, q5⟩ := id hv.lim
  have eF : c.first = 1 + c.inp + c.next.length := rfl
  have n4 : ni ≤ 4 := by omega
  have v1 : V = 1 + ni + c.next.length + c.gates.length := by omega
  have v0 : 1 + ni + c.next.length ≤ V := by omega
  have v2 : V ≤ 22 := by omega
  have H := Lib.hid (And.intro h (And.intro hg (And.intro hv (And.intro hS (And.intro hI (And.intro lS (And.intro lI (And.intro li (And.intro hV (And.intro eF v1))))))))))
  obtain ⟨c0, c1, c2, c3⟩ := h
  rw [li] at c0
  have hmk := fun w => mkBools w V (by omega)
  have hvars := fun w' (hb : Drew w w') => vars_any b c.inp sn sg c.next.length cn c.gates.length cg vo w' ⟨(hb.below _).cell (p := ⟨b, 0, none⟩) HB.out ▸ H.out.1.h0, (hb.below _).cell (p := ⟨b, 1, none⟩) HB.out ▸ H.out.1.h1, (hb.below _).cell (p := ⟨b, 2, none⟩) HB.out ▸ H.out.1.h2, (hb.below _).cell (p := ⟨b, 3, none⟩) HB.out ▸ H.out.1.h3⟩ (by omega) (by omega) (by omega)
  have HM2 : Hid (∀ W, Below w.heap.size w W → CirAt W b c.inp (.slice sn c.next.length cn) (.slice sg c.gates.length cg) vo) := fun W hb => ⟨(hb.cell (p := ⟨b, 0, none⟩) HB.out).trans H.out.1.h0, (hb.cell (p := ⟨b, 1, none⟩) HB.out).trans H.out.1.h1, (hb.cell (p := ⟨b, 2, none⟩) HB.out).trans H.out.1.h2, (hb.cell (p := ⟨b, 3, none⟩) HB.out).trans H.out.1.h3⟩
  have e0 : 1 + c.inp + (c.next.length : Int) + (c.gates.length : Int) = (V : Int) := by omega
  have HM := Lib.hid (And.intro hvars e0)
  clear hvars e0 v1 hg hv hS hI lS lI li hV eF f1 f2 f3
  go_enter Try.func136, Try.ntmps136
  go_upto_region 2 with (go_at_call 69; ((refine (HM.out.1 _ (Drew.refl _)).mono ?_); rintro e w1 ⟨rfl, hd⟩; rw [HM.out.2]; have HD := Lib.hid hd; clear hd))
  clear hmk
  obtain ⟨G, hG⟩ : ∃ G, w1.heap.size = G := ⟨_, rfl⟩
  have HG : Hid (w.heap.size = G) := (show w.heap.size = G by rw [← hG, HD.out.heap])
  have hbA : Below G w (w1.alloc (.cells (bools (List.replicate V false)).toArray 4)) := (HD.out.below _).alloc (by omega) _
  have hbN : (w1.alloc (.cells (bools (List.replicate V false)).toArray 4)).heap[G]? = some (.cells (bools (List.replicate V false)).toArray 4 (0, 0)) := by rw [← hG]; exact blk_new _ _
  rw [hG]
  clear hG c0 c1 c2 c3
  revert hbA hbN
  generalize (w1.alloc (.cells (bools (List.replicate V false)).toArray 4)) = WA
  intro hbA hbN
  have bG : b < G := by rw [← HG.out]; exact HB.out
  have CC : Hid (∀ W, Below G w W → W.cell? ⟨b, 0, none⟩ = some (.int .i64 ni) ∧ W.cell? ⟨b, 2, none⟩ = some (.slice sg c.gates.length cg)) := fun W hW => by
    rw [hW.cell (by exact bG), hW.cell (by exact bG), ← H.out.2.2.2.2.2.2.2.1]; exact ⟨H.out.1.h0, H.out.1.h2⟩
  have HA := Lib.hid (And.intro hbA hbN)
  clear hbA hbN
  obtain ⟨Z0, hZ0⟩ : ∃ Z0, Z0 = bools (List.replicate V false) := ⟨_, rfl⟩
  obtain ⟨X1, hX1⟩ : ∃ X1, X1 = bools I := ⟨_, rfl⟩
  obtain ⟨X2, hX2⟩ : ∃ X2, X2 = bools S := ⟨_, rfl⟩
  have z0 : Z0.length = V := by rw [hZ0]; simp
  have x1 : X1.length = ni := by rw [hX1, bools_length]; exact H.out.2.2.2.2.2.2.1
  have x2 : X2.length = c.next.length := by rw [hX2, bools_length]; exact H.out.2.2.2.2.2.1
  have HZ := Lib.hid (And.intro hZ0 (And.intro hX1 (And.intro hX2 (And.intro z0 (And.intro x1 (And.intro x2 (show ∀ W, Below G w W → (0 < X1.length → ∃ ad, si = some ad ∧ ∀ (j : Nat) (v : Value), X1[j]? = some v → W.cell? (ad.add j) = some v) ∧ (0 < X2.length → ∃ ad, ss = some ad ∧ ∀ (j : Nat) (v : Value), X2[j]? = some v → W.cell? (ad.add j) = some v) from fun W hW => by
      rw [hX1, hX2]
      rw [← HG.out] at hW
      exact ⟨(H.out.2.2.2.2.1.mono hW).src, (H.out.2.2.2.1.mono hW).src⟩)))))))
  clear hZ0 hX1 hX2 z0 x1 x2
  have one1 : Hid (∀ v ∈ X1, v.oneCell' = true) := by rw [HZ.out.2.1]; exact bools_one _
  have one2 : Hid (∀ v ∈ X2, v.oneCell' = true) := by rw [HZ.out.2.2.1]; exact bools_one _
  have H0 : Hid (WA.heap[G]? = some (.cells Z0.toArray 4 (0, 0))) := (show WA.heap[G]? = some (.cells Z0.toArray 4 (0, 0)) by rw [HZ.out.1]; exact HA.out.2)
  have hn1 : Hid (∀ d, d = V - 1 → X1.length = Nat.min ni d) := fun d hd => by have := HZ.out.2.2.2.2.1; show X1.length = min _ _; omega
  have hn2 : Hid (∀ d, d = V - (1 + ni) → X2.length = Nat.min c.next.length d) := fun d hd => by have := HZ.out.2.2.2.2.2.1; show X2.length = min _ _; omega
  go_cut [11, 16, 17] from 18 to 21 (fun o a d wx => o = .slice (some ⟨G, 0, none⟩) V V ∧ a = .int .i64 V ∧ d = .slice (some ⟨G, 0, none⟩) V V ∧ wx.heap[G]? = some (.cells (splice Z0 1 X1).toArray 4 (0, 0)) ∧ Below G w wx)
  case first =>
    go_wp2_with (((with_reducible refine wpList_copy_splice rfl (.tmp 19) (.tmp 20) 39 39 rfl 4 (by kernel_rfl) (by kernel_rfl) _ _ _ _ _ _ rfl rfl G 1 Z0 4 H0.out X1 ?_ ?_ ?_ ?_ G w HA.out.1 (Nat.le_refl _) ?_); rotate_right 1; intro W3 HG3 hB3; have HS3 := Lib.hid (And.intro HG3.out hB3); clear HG3 hB3))
    any_goals first
      | exact one1.out
      | exact hn1.out _ (by omega)
      | exact List.eq_nil_of_length_eq_zero (by have := HZ.out.2.2.2.2.1; omega)
      | exact (HZ.out.2.2.2.2.2.2 WA HA.out.1).1
      | (intro hp; exfalso; have := HZ.out.2.2.2.2.1; omega)
      | (rw [HZ.out.2.2.2.1, HZ.out.2.2.2.2.1]; omega)
      | (go_meet; exact ⟨rfl, rfl, rfl, HS3.out⟩)
      | (go_meet; have e : V = 1 := (by omega); refine ⟨?_, ?_, ?_, HS3.out⟩ <;> (rw [e]; first | done | rfl))
  case rest =>
    obtain ⟨rfl, rfl, rfl, HW1⟩ := hcut
    rename_i W1
    have HA := Lib.hid HW1
    clear HW1 H0
    have c0 := (CC.out _ HA.out.2).1
    go_upto_region 3 with fail
    go_cut [11, 16, 17] from 22 to 30 (fun o a d wx => o = .slice (some ⟨G, 0, none⟩) V V ∧ a = .int .i64 V ∧ d = .slice (some ⟨G, 0, none⟩) V V ∧ wx.heap[G]? = some (.cells (splice (splice Z0 1 X1) (1 + ni) X2).toArray 4 (0, 0)) ∧ Below G w wx)
    case first =>
      go_wp2_with (((with_reducible refine wpList_copy_splice rfl (.tmp 28) (.tmp 29) 39 39 rfl 4 (by kernel_rfl) (by kernel_rfl) _ _ _ _ _ _ rfl rfl G (1 + ni) (splice Z0 1 X1) 4 HA.out.1 X2 ?_ ?_ ?_ ?_ G w HA.out.2 (Nat.le_refl _) ?_); rotate_right 1; intro W3 HG3 hB3; have HS3 := Lib.hid (And.intro HG3.out hB3); clear HG3 hB3))
      any_goals first
        | exact one2.out
        | exact hn2.out _ (by omega)
        | exact List.eq_nil_of_length_eq_zero (by have := HZ.out.2.2.2.2.2.1; omega)
        | exact (HZ.out.2.2.2.2.2.2 _ HA.out.2).2
        | (intro hp; exfalso; have := HZ.out.2.2.2.2.2.1; omega)
        | (rw [length_splice _ _ _ (by rw [HZ.out.2.2.2.1, HZ.out.2.2.2.2.1]; omega), HZ.out.2.2.2.1, HZ.out.2.2.2.2.2.1]; omega)
        | (go_meet; exact ⟨rfl, rfl, rfl, HS3.out⟩)
        | (go_meet; have e : V = 1 + ni := (by omega); refine ⟨?_, ?_, ?_, HS3.out⟩ <;> (rw [e]; first | done | rfl | simp))
    case rest =>
      obtain ⟨rfl, rfl, rfl, HW1⟩ := hcut
      have HB2 : Hid (_ ∧ _) := Lib.hid HW1
      have c2 := (CC.out _ HB2.out.2).2
      clear HW1 HA c0
      have hcells : wc.heap[G]? = some (.cells (bools ((false :: (I ++ S)) ++ List.replicate c.gates.length false)).toArray 4 (0, 0)) := by
        have := HB2.out.1
        rw [HZ.out.1, HZ.out.2.1, HZ.out.2.2.1, splice_vals V ni c.next.length c.gates.length H.out.2.2.2.2.2.2.2.2.2.2 I S H.out.2.2.2.2.2.2.1 H.out.2.2.2.2.2.1] at this
        exact this
      have hlen : (false :: (I ++ S)).length = 1 + ni + c.next.length := by
        have h1 := H.out.2.2.2.2.2.2.1; have h2 := H.out.2.2.2.2.2.1; simp; omega
      have HB3 := Lib.hid (And.intro hcells (And.intro HB2.out.2 hlen))
      clear HB2 hcells hlen
      go_upto_region 4 with fail
      by_cases hs0 : 0 ≤ st
      case' pos =>
        have hpl : st.toNat < (false :: (I ++ S)).length + c.gates.length := by have := HB3.out.2.2; have := H.out.2.2.2.2.2.2.2.2.2.2; omega
        obtain ⟨y, hy⟩ := get_of_lt (l := (false :: (I ++ S)) ++ List.replicate c.gates.length false) (k := st.toNat) (by rw [List.length_append, List.length_replicate]; exact hpl)
        have z1 := bools_cell HB3.out.1 hy
        have z2 : wc.frozen? ⟨G, st.toNat, none⟩ = false := blk_free HB3.out.1
        have hcells := bools_blk_set HB3.out.1 st.toNat val
        rw [tail_stuck (val := val) hpl, HB3.out.2.2, show ((st.toNat : Nat) : Int) = st from by omega] at hcells
        have hb := HB3.out.2.1.setCell (p := ⟨G, st.toNat, none⟩) (Nat.le_refl _) (.bool val)
        have HS := Lib.hid (And.intro hcells hb)
        clear hpl hy hcells hb
        go_upto_region 6 with fail
        have hcells := HS.out.1
        have hb := HS.out.2
        clear HS z1 z2
        revert hcells hb
        generalize (wc.setCell ⟨G, st.toNat, none⟩ (.bool val)) = WL
        intro hcells hb
      case' neg =>
        have hcells := HB3.out.1
        have hb := HB3.out.2.1
        have e : (false :: (I ++ S)) ++ List.replicate c.gates.length false = stuckB st val (false :: (I ++ S)) ++ tailV st val (1 + ni + c.next.length) c.gates.length := by
          rw [show st = -1 from by omega, tailV_none]
          unfold stuckB
          rw [if_neg (by omega)]
        rw [e] at hcells
        have HS := Lib.hid (And.intro hcells hb)
        clear e hcells hb
        go_upto_region 6 with fail
        have hcells := HS.out.1
        have hb := HS.out.2
        clear HS
        revert hcells hb
        generalize wc = WL
        intro hcells hb
      all_goals
        obtain ⟨B0, hB0⟩ : ∃ B0, B0 = stuckB st val (false :: (I ++ S)) := ⟨_, rfl⟩
        obtain ⟨F, hF⟩ : ∃ F, F = 1 + ni + c.next.length := ⟨_, rfl⟩
        have lB0 : B0.length = F := by rw [hB0, stuckB_length, hF]; exact HB3.out.2.2
        rw [← hF] at hcells
        have EF : Hid (1 + c.inp + (c.next.length : Int) = (F : Int) ∧ F = 1 + ni + c.next.length ∧ V = F + c.gates.length) := ⟨by have := H.out.2.2.2.2.2.2.2.1; omega, hF, by have := H.out.2.2.2.2.2.2.2.2.2.2; omega⟩
        have fV : F ≤ 8 := by omega
        rw [← hB0] at hcells
        have HB0 := Lib.hid (And.intro hB0 (And.intro lB0 (And.intro hcells hb)))
        clear HB3 hcells hb c2 hB0 lB0 hF
        have c2 := (CC.out _ HB0.out.2.2.2).2
        go_wp2_with fail
        go_loopw [42] (fun i wr => ∃ k : Nat, k ≤ c.gates.length ∧ i = .int .i64 k ∧ wr.heap[G]? = some (.cells (bools (valsV st val B0 (c.gates.take k) ++ tailV st val (F + k) (c.gates.length - k))).toArray 4 (0, 0)) ∧ Below G w wr) (fun i _ => c.gates.length - (intOf i).toNat)
        case atStart => exact ⟨0, Nat.zero_le _, rfl, by simpa [valsV] using HB0.out.2.2.1, HB0.out.2.2.2⟩
        case round =>
          obtain ⟨k, hk, rfl, hbk, hbl⟩ := hrel
          have hblw : Below w.heap.size w wr := by rw [HG.out]; exact hbl
          have c2 := (CC.out _ hbl).2
          have hlk : (valsV st val B0 (c.gates.take k)).length = F + k := by rw [valsV_length, HB0.out.2.1, List.length_take]; omega
          by_cases hlt : k < c.gates.length
          · obtain ⟨g, hg⟩ := get_of_lt hlt
            obtain ⟨gb, off, rfl, hbw, z1, z2⟩ := H.out.2.1.gate hblw hg
            obtain ⟨⟨a1, a2⟩, b1, b2⟩ := valid_gate H.out.2.2.1 hg
            have hli := H.out.2.2.2.2.2.2.2.1
            have heF := H.out.2.2.2.2.2.2.2.2.2.1
            have hvV := EF.out.2.2
            have hF0 := EF.out.1
            have hsz : G ≤ wr.heap.size := by have := hbl.size; have := HG.out; omega
            have hgl := blk_lt hbk
            have hbA := hbl.alloc hsz (.cells #[.int .i64 g.a, .int .i64 g.b] 38)
            have hbkA := blk_old (o := .cells #[.int .i64 g.a, .int .i64 g.b] 38) hbk
            have hbn := blk_new wr (.cells #[.int .i64 g.a, .int .i64 g.b] 38)
            have a3 : g.a / 2 < F + k := by omega
            have b3 : g.b / 2 < F + k := by omega
            have hlkV : k < c.gates.length := hlt
            have a4 : g.a ≤ 1000000 := by omega
            have b4 : g.b ≤ 1000000 := by omega
            have k22 : F + k < V := by omega
            have HR := Lib.hid (And.intro hbk (And.intro hbl (And.intro hg (And.intro hlk hvV))))
            have HR2 := Lib.hid (And.intro hbA (And.intro hbkA hbn))
            clear hbk hbl hg hlk hvV hF0 hblw hbw hli heF a2 b2 hbA hbkA hbn
            go_upto_region 10 with (first
              | (go_at_call 73; ((refine (firstGate_any _ _ _ _ _ _ _ _ (HM2.out _ (by rw [HG.out]; exact HR2.out.1)) (by omega) (by omega)).mono ?_); rintro e w2 ⟨rfl, hd⟩; rw [EF.out.1]; have HD2 := Lib.hid (And.intro (HR2.out.1.trans (hd.below _)) (And.intro (blk_below (hd.below _) (blk_lt HR2.out.2.1) HR2.out.2.1) (blk_below (hd.below _) (blk_lt HR2.out.2.2) HR2.out.2.2))); clear hd)))
            have en : c.gates.length - k = (c.gates.length - (k + 1)) + 1 := by omega
            have hsn : ∀ x : Bool, x = (litB (valsV st val B0 (c.gates.take k)) g.a && litB (valsV st val B0 (c.gates.take k)) g.b) → ((F + k : Nat) : Int) ≠ st → (valsV st val B0 (c.gates.take k) ++ tailV st val (F + k) (c.gates.length - k)).set (F + k) x = valsV st val B0 (c.gates.take (k + 1)) ++ tailV st val (F + (k + 1)) (c.gates.length - (k + 1)) := fun x hx hne => by
              have := tail_set (st := st) (val := val) (vs := valsV st val B0 (c.gates.take k)) (g := g) (n := c.gates.length - (k + 1)) (by rw [HR.out.2.2.2.1]; exact hne)
              rw [HR.out.2.2.2.1, ← en, ← valsV_snoc HR.out.2.2.1] at this
              rw [hx]; exact this
            have hke : ((F + k : Nat) : Int) = st → valsV st val B0 (c.gates.take k) ++ tailV st val (F + k) (c.gates.length - k) = valsV st val B0 (c.gates.take (k + 1)) ++ tailV st val (F + (k + 1)) (c.gates.length - (k + 1)) := fun hne => by
              have := tail_keep (st := st) (val := val) (vs := valsV st val B0 (c.gates.take k)) (g := g) (n := c.gates.length - (k + 1)) (by rw [HR.out.2.2.2.1]; exact hne)
              rw [HR.out.2.2.2.1, ← en, ← valsV_snoc HR.out.2.2.1] at this
              exact this
            obtain ⟨P, hP⟩ : ∃ P, P = valsV st val B0 (c.gates.take k) := ⟨_, rfl⟩
            obtain ⟨L, hL⟩ : ∃ L, L = valsV st val B0 (c.gates.take k) ++ tailV st val (F + k) (c.gates.length - k) := ⟨_, rfl⟩
            have lP : P.length = F + k := by rw [hP]; exact HR.out.2.2.2.1
            have hLP : ∃ r, L = P ++ r := ⟨_, by rw [hL, hP]⟩
            have lL : L.length = V := by rw [hL, List.length_append, HR.out.2.2.2.1, tailV_length]; have := EF.out.2.2; omega
            rw [← hL] at hsn hke HD2
            rw [← hP] at hsn
            have hlv : ∀ (W : World), W.heap[G]? = some (.cells (bools L).toArray 4 (0, 0)) → ∀ l : Int, 0 ≤ l → l ≤ 1000000 → l / 2 < F + k → Calls Try.prog 137 #[.slice (some ⟨G, 0, none⟩) V V, .int .i64 l] W fun e w' => e = .returned (.bool (litB P l)) ∧ W = w' := fun W hW l h0 h1 h2 => by
              obtain ⟨r, hr⟩ := hLP
              have := litValue_any (some ⟨G, 0, none⟩) L V l W (Sl.toB hW) h0 h1 (by rw [lL]; omega)
              rw [lL, hr, litB_pre (by rw [lP]; omega)] at this
              exact this
            obtain ⟨y, hy⟩ := get_of_lt (l := L) (k := F + k) (by rw [lL]; omega)
            have x1 := bools_cell HD2.out.2.1 hy
            have x2 : w2.frozen? ⟨G, F + k, none⟩ = false := blk_free HD2.out.2.1
            have x3 : w2.cell? ⟨wr.heap.size, 0, none⟩ = some (.int .i64 g.a) := blk_cell HD2.out.2.2
            have x4 : w2.cell? ⟨wr.heap.size, 1, none⟩ = some (.int .i64 g.b) := blk_cell HD2.out.2.2
            have HQ := Lib.hid (And.intro hsn (And.intro hke (And.intro hP (And.intro hL (And.intro lP (And.intro lL hlv))))))
            clear hsn hke hP hL lP hLP lL hlv hy en z1 z2 c2
            obtain ⟨va, hva⟩ : ∃ va, va = litB P g.a := ⟨_, rfl⟩
            obtain ⟨vb, hvb⟩ : ∃ vb, vb = litB P g.b := ⟨_, rfl⟩
            have HV := Lib.hid (And.intro hva hvb)
            clear hva hvb
            by_cases hks : (F : Int) + (k : Int) = st
            · go_wp2_with fail
              go_roundw
              case rel =>
                refine ⟨k + 1, by omega, by go_num, ?_, HD2.out.1⟩
                rw [← HQ.out.2.1 (by omega)]
                exact HD2.out.2.1
              case measure => simp [intOf]; omega
            · cases va
              · go_wp2_with (go_at_call 137; ((with_reducible refine (HQ.out.2.2.2.2.2.2 _ HD2.out.2.1 _ a1 a4 a3).mono ?_); rintro e w3 ⟨rfl, rfl⟩; rw [← HV.out.1]))
                go_roundw
                case rel =>
                  refine ⟨k + 1, by omega, by go_num, ?_, HD2.out.1.setCell (p := ⟨G, F + k, none⟩) (Nat.le_refl _) _⟩
                  have := bools_blk_set HD2.out.2.1 (F + k) false
                  rw [HQ.out.1 _ (by rw [← HV.out.1]; simp) (by omega)] at this
                  exact this
                case measure => simp [intOf]; omega
              · go_wp2_with (first
                  | (go_at_call 137; ((with_reducible refine (HQ.out.2.2.2.2.2.2 _ HD2.out.2.1 _ a1 a4 a3).mono ?_); rintro e w3 ⟨rfl, rfl⟩; rw [← HV.out.1]))
                  | (go_at_call 137; ((with_reducible refine (HQ.out.2.2.2.2.2.2 _ HD2.out.2.1 _ b1 b4 b3).mono ?_); rintro e w3 ⟨rfl, rfl⟩; rw [← HV.out.2])))
                go_roundw
                case rel =>
                  refine ⟨k + 1, by omega, by go_num, ?_, HD2.out.1.setCell (p := ⟨G, F + k, none⟩) (Nat.le_refl _) _⟩
                  have := bools_blk_set HD2.out.2.1 (F + k) vb
                  rw [HQ.out.1 _ (by rw [← HV.out.1, ← HV.out.2]; simp) (by omega)] at this
                  exact this
                case measure => simp [intOf]; omega
          · obtain rfl : k = c.gates.length := by omega
            rw [Nat.sub_self, tailV_zero, List.append_nil, List.take_length, HB0.out.1] at hbk
            have HR := Lib.hid (And.intro hbk hblw)
            clear hbk hbl hblw hlk
            go_wp2
            go_ret
            exact ⟨_, rfl, HR.out.1, HR.out.2⟩

end Go.Proofs.Ytbcolcchchgldaa
