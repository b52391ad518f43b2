import Derived.Test.YtgadinaninkmoaaDB
import Derived.Test.YtgadinaninkmoaaBB
import Derived.Test.YtgadinaninkmoaaW4
import Derived.Test.YtgadinaninkmoaaL4
import Derived.Deep.DeepCutAuto
import Derived.Deep.RegionHeld3
namespace Go.Proofs.Ytgadinaninkmoaa
set_option linter.unusedVariables false
set_option linter.unusedSimpArgs false
open Go.RowKit

/-! Three rows of numbers in blocks of their own; where a pair came from. -/

structure TriO (w : World) (base np nf nh : Nat) (vp vf vh : Value) (ps fr hw : List Int) : Prop where
  p : w.ownsRow base 3 1 vp np (ints ps)
  f : w.ownsRow base 3 1 vf nf (ints fr)
  h : w.ownsRow base 3 1 vh nh (ints hw)
  pf : ∀ k, vp.ownBlock = some k → vf.ownBlock ≠ some k
  fh : ∀ k, vf.ownBlock = some k → vh.ownBlock ≠ some k
  hp : ∀ k, vh.ownBlock = some k → vp.ownBlock ≠ some k
theorem TriO.below {w w' : World} {base np nf nh : Nat} {vp vf vh : Value} {ps fr hw : List Int} (h : TriO w base np nf nh vp vf vh ps fr hw) (hb : Below w.heap.size w w') : TriO w' base np nf nh vp vf vh ps fr hw :=
  ⟨own_below h.p hb, own_below h.f hb, own_below h.h hb, h.pf, h.fh, h.hp⟩
theorem TriO.rot {w : World} {base np nf nh : Nat} {vp vf vh : Value} {ps fr hw : List Int} (h : TriO w base np nf nh vp vf vh ps fr hw) : TriO w base nf nh np vf vh vp fr hw ps := ⟨h.f, h.h, h.p, h.fh, h.hp, h.pf⟩
/-- The first row grows. -/
theorem TriO.push {w w2 : World} {base np np' nf nh : Nat} {vp vf vh vp' : Value} {ps ps' fr hw : List Int} (h : TriO w base np nf nh vp vf vh ps fr hw) (hg : w.grownBy w2 vp.ownBlock) (ho : w2.ownsRow base 3 1 vp' np' (ints ps')) (hb : vp'.ownBlock = vp.ownBlock ∨ vp'.ownBlock = some w.heap.size) : TriO w2 base np' nf nh vp' vf vh ps' fr hw := by
  have hc := Chg.of_grown hg
  refine ⟨ho, hc.own h.f (fun k hk e => h.pf k e hk), hc.own h.h (fun k hk e => h.hp k hk e), fun k hk e => ?_, h.fh, fun k hk e => ?_⟩
  · rcases hb with hb | hb
    · exact h.pf k (hb ▸ hk) e
    · rw [hb] at hk; cases hk; have := (own_blk h.f e).2; omega
  · rcases hb with hb | hb
    · exact h.hp k hk (hb ▸ e)
    · rw [hb] at e; cases e; have := (own_blk h.h hk).2; omega
/-- Where the pairs came from and with which inputs. -/
structure FH (es : List En) (fr hw : List Int) : Prop where
  lf : fr.length = es.length
  lh : hw.length = es.length
  zero : ∀ e, es[0]? = some e → e.2 = []
  prev : ∀ (i : Nat) (e : En), es[i]? = some e → 0 < i → ∃ (j : Nat) (e' : En) (x : Int), j < i ∧ fr[i]? = some (j : Int) ∧ hw[i]? = some x ∧ es[j]? = some e' ∧ e.2 = e'.2 ++ [x] ∧ 0 ≤ x ∧ x ≤ 1000
theorem FH.start (p : Int × Int) : FH [(p, [])] [0] [0] :=
  ⟨rfl, rfl, fun e h => by simp at h; subst h; rfl, fun i e h hi => by have := (List.getElem?_eq_some_iff.1 h).1; simp at this; omega⟩
theorem FH.add {es : List En} {fr hw : List Int} (h : FH es fr hw) {k : Nat} {e : En} (hk : es[k]? = some e) (n : Int × Int) {x : Int} (h0 : 0 ≤ x) (h1 : x ≤ 1000) : FH (es ++ [(n, e.2 ++ [x])]) (fr ++ [(k : Int)]) (hw ++ [x]) := by
  have hkl := (List.getElem?_eq_some_iff.1 hk).1
  refine ⟨by simp [h.lf], by simp [h.lh], fun e' he => ?_, fun i e' he hi => ?_⟩
  · rw [List.getElem?_append_left (by omega)] at he
    exact h.zero e' he
  · by_cases hlt : i < es.length
    · rw [List.getElem?_append_left hlt] at he
      obtain ⟨j, e2, y, hj, a1, a2, a3, a4, a5⟩ := h.prev i e' he hi
      exact ⟨j, e2, y, hj, by rw [List.getElem?_append_left (by rw [h.lf]; exact hlt)]; exact a1, by rw [List.getElem?_append_left (by rw [h.lh]; exact hlt)]; exact a2, by rw [List.getElem?_append_left (by omega)]; exact a3, a4, a5⟩
    · have hi2 := (List.getElem?_eq_some_iff.1 he).1
      simp at hi2
      obtain rfl : i = es.length := by omega
      rw [List.getElem?_append_right (Nat.le_refl _), Nat.sub_self] at he
      simp at he
      subst he
      exact ⟨k, e, x, hkl, by rw [List.getElem?_append_right (by rw [h.lf]; exact Nat.le_refl _), h.lf, Nat.sub_self]; rfl, by rw [List.getElem?_append_right (by rw [h.lh]; exact Nat.le_refl _), h.lh, Nat.sub_self]; rfl, by rw [List.getElem?_append_left hkl]; exact hk, rfl, h0, h1⟩
theorem FH.len {es : List En} {fr hw : List Int} (h : FH es fr hw) : ∀ (i : Nat) (e : En), es[i]? = some e → e.2.length ≤ i := by
  intro i
  induction i using Nat.strongRecOn with
  | ind i ih =>
    intro e he
    by_cases h0 : i = 0
    · subst h0; rw [h.zero e he]; simp
    · obtain ⟨j, e2, x, hj, -, -, a3, a4, -⟩ := h.prev i e he (by omega)
      have := ih j hj e2 a3
      rw [a4]; simp; omega
def codeP (s : Int × Int) : Int := s.1 + 64 * s.2
theorem codeP_inj {s t : Int × Int} (h1 : 0 ≤ s.1 ∧ s.1 < 64) (h2 : 0 ≤ t.1 ∧ t.1 < 64) (h : codeP s = codeP t) : s = t := by
  unfold codeP at h
  exact Prod.ext (by omega) (by omega)
def codes (es : List En) : List Int := es.map fun e => codeP e.1
theorem codes_length (es : List En) : (codes es).length = es.length := by simp [codes]
theorem codes_mem {es : List En} {n : Int × Int} (hn : 0 ≤ n.1 ∧ n.1 < 64) (h : ∀ e ∈ es, 0 ≤ e.1.1 ∧ e.1.1 < 64) : codeP n ∈ codes es ↔ n ∈ es.map (·.1) := by
  unfold codes
  constructor
  · intro hm
    obtain ⟨e, he, e1⟩ := List.mem_map.1 hm
    exact List.mem_map.2 ⟨e, he, codeP_inj (h e he) hn e1⟩
  · intro hm
    obtain ⟨e, he, rfl⟩ := List.mem_map.1 hm
    exact List.mem_map.2 ⟨e, he, rfl⟩
/-- The rows of inputs that are returned. -/
def rowsX (ni : Nat) (r : List Int) : List (List Bool) := r.map fun x => bitsV x ni
theorem rowsX_length (ni : Nat) (r : List Int) : (rowsX ni r).length = r.length := by simp [rowsX]
def rowsR (a b : Cir) : List (List Bool) := (disR a b).elim [] (rowsX a.inp.toNat)

theorem elem_bss2 : ElemOf Try.prog 27 44 (.slice none 0 0) 1 24 :=
  ⟨by kernel_rfl, info_parts (by kernel_rfl), rfl, by omega⟩
/-- Rows of Booleans in blocks from B on. -/
def SlBA (w : World) (B : Nat) (s : Option Addr) (rows : List (List Bool)) : Prop :=
  ∃ vs : List Value, vs.length = rows.length ∧ Sl w s vs ∧ (∀ a, s = some a → B ≤ a.block) ∧ (∀ u ∈ vs, u.oneCell' = true) ∧ ∀ (i : Nat) (r : List Bool), rows[i]? = some r → ∃ si ci, vs[i]? = some (Value.slice si r.length ci) ∧ Sl w si (bools r) ∧ ∀ a, si = some a → B ≤ a.block
theorem SlBA.slb {w : World} {B : Nat} {s : Option Addr} {rows : List (List Bool)} (h : SlBA w B s rows) : SlB w s rows := by
  obtain ⟨vs, h1, h2, -, -, h5⟩ := h
  exact ⟨vs, h1, h2, fun i r hr => by obtain ⟨si, ci, e1, e2, -⟩ := h5 i r hr; exact ⟨si, ci, e1, e2⟩⟩
theorem SlBA.mono {w w' : World} {B : Nat} {s : Option Addr} {rows : List (List Bool)} (h : SlBA w B s rows) (hb : Below w.heap.size w w') : SlBA w' B s rows := by
  obtain ⟨vs, h1, h2, h3, h4, h5⟩ := h
  exact ⟨vs, h1, h2.mono hb, h3, h4, fun i r hr => by obtain ⟨si, ci, e1, e2, e3⟩ := h5 i r hr; exact ⟨si, ci, e1, e2.mono hb, e3⟩⟩
theorem Sl.setlow {w : World} {B r o : Nat} {s : Option Addr} {cs : List Value} {v : Value} (h : Sl w s cs) (hB : ∀ a, s = some a → B ≤ a.block) (hr : r < B) : Sl (w.setCell ⟨r, o, none⟩ v) s cs := by
  rcases h with rfl | ⟨b, off, rfl, h⟩
  · exact .inl rfl
  · have hb := hB _ rfl
    refine .inr ⟨b, off, rfl, fun j u hu => ?_⟩
    have := h j u hu
    unfold World.cell? at this ⊢
    rw [blk_set_ne (b := b) (c := r) (x := w.heap[b]?) (by simp only at hb; omega) rfl]
    exact this
theorem SlBA.setlow {w : World} {B r o : Nat} {s : Option Addr} {rows : List (List Bool)} {v : Value} (h : SlBA w B s rows) (hr : r < B) : SlBA (w.setCell ⟨r, o, none⟩ v) B s rows := by
  obtain ⟨vs, h1, h2, h3, h4, h5⟩ := h
  exact ⟨vs, h1, h2.setlow h3 hr, h3, h4, fun i q hq => by obtain ⟨si, ci, e1, e2, e3⟩ := h5 i q hq; exact ⟨si, ci, e1, e2.setlow e3 hr, e3⟩⟩
theorem own_from {w : World} {base : Nat} {e : TypeId} {size : Nat} {s : Option Addr} {c n : Nat} {xs : List Value} (h : w.ownsRow base e size (.slice s n c) n xs) : ∀ a, s = some a → base ≤ a.block := by
  intro a ha
  rcases h.2 with ⟨h', -⟩ | ⟨g, cap, cur, h', hb, -⟩
  · simp only [Value.slice.injEq] at h'
    obtain ⟨rfl, -⟩ := h'
    cases ha
  · simp only [Value.slice.injEq] at h'
    obtain ⟨rfl, -⟩ := h'
    cases ha
    exact hb
theorem SlBA.one {w : World} {B : Nat} {s : Option Addr} {c n : Nat} {bs : List Bool} (h : Sl w s (bools bs)) (hB : ∀ a, s = some a → B ≤ a.block) (hw : B ≤ w.heap.size) (hn : n = bs.length) (t : TypeId) : SlBA (w.alloc (.cells #[.slice s n c] t)) B (some ⟨w.heap.size, 0, none⟩) [bs] := by
  subst hn
  refine ⟨[.slice s bs.length c], rfl, Sl.new _ _ _, fun a ha => by cases ha; exact hw, by simp [Value.oneCell'], fun i r hr => ?_⟩
  cases i with
  | zero => simp at hr; subst hr; exact ⟨s, c, rfl, h.mono ((Below.refl _ _).alloc (Nat.le_refl _) _), hB⟩
  | succ i => simp at hr

set_option maxHeartbeats 400000 in
theorem l4Bits_own (x : Int) (n : Nat) (w : World) (h0 : 0 ≤ x) (h1 : x ≤ 1000000) (hn : n ≤ 20) :
    Calls Try.prog 38 #[.int .i64 x, .int .i64 n] w fun e w' => ∃ s c, e = .returned (.slice s n c) ∧ w'.ownsRow w.heap.size 4 1 (.slice s n c) n (bools (bitsV x n)) ∧ Below w.heap.size w w' := by
  have hA : Below w.heap.size w (w.alloc (.cells #[] 4)) := (Below.refl _ _).alloc (Nat.le_refl _) _
  have ho : (w.alloc (.cells #[] 4)).ownsRow w.heap.size 4 1 (.slice (some ⟨w.heap.size, 0, none⟩) 0 0) 0 [] := own_of_blk (n := 0) (cur := #[]) (blk_new w _) (Nat.le_refl _) (by simp) (by unfold maxLen; omega)
  have HO := Lib.hid (And.intro ho hA)
  clear ho hA
  go_enter Try.func38, Try.ntmps38
  go_wp2
  revert HO
  generalize w.alloc (.cells #[] 4) = WA
  intro HO
  go_loopw [6, 5] (fun i v wr => ∃ (k : Nat) (s : Option Addr) (c : Nat), k ≤ n ∧ i = .int .i64 k ∧ v = .slice s k c ∧ wr.ownsRow w.heap.size 4 1 v k (bools (bitsV x k)) ∧ Below w.heap.size w wr) (fun i _ _ => n - (intOf i).toNat)
  case atStart => exact ⟨0, _, _, Nat.zero_le _, rfl, rfl, HO.out.1, HO.out.2⟩
  case round =>
    obtain ⟨k, so, c, hk, rfl, rfl, ho, hbl⟩ := hrel
    by_cases hlt : k < n
    · have hpw : (1 : Int) ≤ 2 ^ k := by have : (0 : Int) < 2 ^ k := Int.pow_pos (by decide); omega
      have q1 : 0 ≤ x / 2 ^ k := Int.ediv_nonneg h0 (by omega)
      have q2 : x / 2 ^ k ≤ 1000000 := Int.le_trans (Int.ediv_le_self _ h0) h1
      have hbs := hbl.size
      have HR := Lib.hid (And.intro ho (And.intro hbl hpw))
      clear ho hbl hpw
      go_wp2_with (at_builtin; refine wpl_app rfl _ _ rfl elem_bool (own_below HR.out.1 ((Below.refl _ _).alloc (Nat.le_refl _) _)) rfl rfl rfl (Sl.new _ _ _) (by simp [Value.oneCell']) (k + 1) rfl _ rfl (by unfold maxLen; omega) (by omega) (by simp; omega) ?_; intro s3 c3 w3 h3 hb3 _ _; have HA := Lib.hid (And.intro h3 hb3); clear h3 hb3)
      go_roundw
      case rel =>
        refine ⟨k + 1, s3, c3, by omega, by go_num, rfl, ?_, (HR.out.2.1.alloc hbs _).trans HA.out.2⟩
        have e := HA.out.1
        rw [bitsV_snoc]
        unfold bools at *
        rw [List.map_append]
        exact e
      case measure => simp [intOf]; omega
    · obtain rfl : k = n := by omega
      have HR := Lib.hid (And.intro ho hbl)
      clear ho hbl
      go_wp2
      go_ret
      exact ⟨_, _, rfl, HR.out.1, HR.out.2⟩

set_option maxRecDepth 100000 in
set_option maxHeartbeats 1600000 in
theorem l16Rows_any (ni : Nat) (vn vg vo : Value) (sf sh : Option Addr) (cf ch : Nat) (es : List En) (fr hw : List Int) (k : Nat) (e0 : En) (last : Int) (w : World) (n4 : ni ≤ 4) (hF : FH es fr hw) (hs : Sl w sf (ints fr)) (hh : Sl w sh (ints hw)) (hk : es[k]? = some e0) (hl0 : 0 ≤ last) (hl1 : last ≤ 1000) (hlen : es.length ≤ 1000) :
    Calls Try.prog 18 #[.agg #[.int .i64 ni, vn, vg, vo], .slice sf es.length cf, .slice sh es.length ch, .int .i64 k, .int .i64 last] w fun e w' => ∃ s cap, e = .returned (.slice s (e0.2.length + 1) cap) ∧ SlBA w' w.heap.size s (rowsX ni (e0.2 ++ [last])) ∧ Below w.heap.size w w' := by
  have hkl := (List.getElem?_eq_some_iff.1 hk).1
  have hL := hF.len k e0 hk
  obtain ⟨W0, hW0⟩ : ∃ W0, W0 = w.alloc (.cells #[.int .i64 ni, vn, vg, vo] 33) := ⟨_, rfl⟩
  have hbx : W0.heap[w.heap.size]? = some (.cells #[.int .i64 ni, vn, vg, vo] 33 (0, 0)) := by rw [hW0]; exact blk_new _ _
  have hbw : Below w.heap.size w W0 := by rw [hW0]; exact (Below.refl _ _).alloc (Nat.le_refl _) _
  have HS := Lib.hid (And.intro hs (And.intro hh (And.intro hF (And.intro hk hL))))
  have HW := Lib.hid (And.intro hW0 (And.intro hbx hbw))
  obtain ⟨K0, hK0⟩ : ∃ K0, K0 = e0.2.length := ⟨_, rfl⟩
  rw [← hK0] at hL ⊢
  have HK0 := Lib.hid hK0
  have hK1 : K0 ≤ 1000 := by omega
  clear hs hh hF hk hL hW0 hbx hbw hK0
  go_enter Try.func18, Try.ntmps18
  go_upto_region 1 with fail
  rw [← HW.out.1]
  have cb := (blk_all HW.out.2.1).1
  go_upto_region 2 with (go_at_call 38; ((with_reducible refine (l4Bits_own last ni _ hl0 (by omega) (by omega)).mono ?_); rintro e w1 ⟨s1, c1, rfl, h1, hq⟩; have H1 := Lib.hid (And.intro h1 hq); clear h1 hq cb))
  have hb1 : Below w.heap.size w (w1.alloc (.cells #[.slice s1 ni c1] 44)) := (HW.out.2.2.trans (H1.out.2.mono HW.out.2.2.size)).alloc (Nat.le_trans HW.out.2.2.size H1.out.2.size) _
  have hx1 := blk_old (o := .cells #[.slice s1 ni c1] 44) (blk_below H1.out.2 (blk_lt HW.out.2.1) HW.out.2.1)
  have hr1 : SlBA (w1.alloc (.cells #[.slice s1 ni c1] 44)) w.heap.size (some ⟨w1.heap.size, 0, none⟩) (rowsX ni [last]) := SlBA.one (own_sl H1.out.1) (fun a ha => Nat.le_trans HW.out.2.2.size (own_from H1.out.1 a ha)) (Nat.le_trans HW.out.2.2.size H1.out.2.size) (bitsV_length _ _).symm _
  revert hb1 hx1 hr1
  generalize w1.alloc (.cells #[.slice s1 ni c1] 44) = W2
  intro hb1 hx1 hr1
  have HD := Lib.hid (And.intro hb1 (And.intro hx1 hr1))
  clear hb1 hx1 hr1 H1 HW
  go_loopw [3, 11] (fun v3 v11 wr => ∃ (p : Nat) (e : En) (suf : List Int) (s : Option Addr) (c : Nat), es[p]? = some e ∧ v3 = .int .i64 p ∧ v11 = .slice s suf.length c ∧ SlBA wr w.heap.size s (rowsX ni suf) ∧ e.2 ++ suf = e0.2 ++ [last] ∧ Below W2.heap.size W2 wr) (fun v3 _ _ => (intOf v3).toNat)
  case atStart => exact ⟨k, e0, [last], _, _, HS.out.2.2.2.1, rfl, rfl, HD.out.2.2, rfl, Below.refl _ _⟩
  case round =>
    obtain ⟨p, e, suf, s, c, he, rfl, rfl, hsb, hsuf, hbl⟩ := hrel
    have hpl := (List.getElem?_eq_some_iff.1 he).1
    have hbw := HD.out.1.trans (hbl.mono HD.out.1.size)
    by_cases h0 : p = 0
    · subst h0
      have hz := HS.out.2.2.1.zero e he
      have hsuf2 : suf = e0.2 ++ [last] := by rw [hz] at hsuf; simpa using hsuf
      have hsl : suf.length = K0 + 1 := by rw [hsuf2, HK0.out]; simp
      have hsb2 := hsb
      rw [hsuf2] at hsb2
      rw [hsl]
      have HR := Lib.hid (And.intro hsb2 hbw)
      clear hsb2 hsb hsuf hz hbl he hsuf2 hsl hbw
      go_wp2_with fail
      go_ret
      exact ⟨s, c, rfl, HR.out.1, HR.out.2⟩
    · obtain ⟨j, e', x, hj, a1, a2, a3, a4, x0, x1⟩ := HS.out.2.2.1.prev p e he (by omega)
      obtain ⟨fb, fo, rfl, hfb, -⟩ := HS.out.1.int hbw a1
      obtain ⟨hb, ho, rfl, hhb, -⟩ := HS.out.2.1.int hbw a2
      have hsl : suf.length ≤ K0 + 1 := by
        have h1 := congrArg List.length hsuf
        rw [List.length_append, List.length_append, ← HK0.out] at h1
        simp at h1; omega
      have HC : Hid (∀ W, Below wr.heap.size wr W → ((∀ o, W.cell? ⟨w.heap.size, o, none⟩ = #[Value.int .i64 ni, vn, vg, vo][o]?) ∧ W.cell? ⟨hb, ho + p, none⟩ = some (.int .i64 x)) ∧ W.cell? ⟨fb, fo + p, none⟩ = some (.int .i64 j)) := fun W hW => by
        have hq := hbl.trans (hW.mono hbl.size)
        refine ⟨⟨(blk_all (blk_below hq (blk_lt HD.out.2.1) HD.out.2.1)).1, ?_⟩, ?_⟩
        · obtain ⟨_, _, e1, -, z⟩ := HS.out.2.1.int (HD.out.1.trans (hq.mono HD.out.1.size)) a2
          cases e1; exact z
        · obtain ⟨_, _, e1, -, z⟩ := HS.out.1.int (HD.out.1.trans (hq.mono HD.out.1.size)) a1
          cases e1; exact z
      obtain ⟨vs, v1, v2, -, v3, v4⟩ := hsb
      rw [rowsX_length] at v1
      have hp0 : 0 < p := by omega
      have HR := Lib.hid (And.intro a3 (And.intro (show e'.2 ++ (x :: suf) = e0.2 ++ [last] by rw [← hsuf, a4]; simp) (And.intro hbl (And.intro v1 (And.intro v2 (And.intro v3 v4))))))
      clear he hsuf hbl hbw a1 a2 a3 a4 v1 v2 v3 v4 h0 hfb hhb
      go_upto_region 3 with fail
      refine wp_region_T (fun w' => (∀ o, w'.cell? ⟨w.heap.size, o, none⟩ = #[Value.int .i64 ni, vn, vg, vo][o]?) ∧ w'.cell? ⟨hb, ho + p, none⟩ = some (.int .i64 x)) (.q 0 (.q 1 (.q 2 (.q 3 (.q 4 (.q 5 (.q 8 (.e 6 (.e 7 (.e 9 (.q 10 .nil))))))))))) (by kernel_rfl) (by kernel_rfl) (by kernel_rfl) (HC.out _ (Below.refl _ _).drew).1 ?_
      repeat (first | (refine ordt_s (o := ?_) ?_ ?_ ?_; rotate_left 1; (focus ((simp only [List.getElem?_toArray, List.getElem?_cons_succ, List.getElem?_cons_zero]) <;> rfl)); (focus rfl); simp only [Act.put, List.setIfInBounds_toArray, List.set_cons_zero, List.set_cons_succ]) | (refine ordt_q (o := ?_) (v := ?_) ?_ ?_ ?_ ?_; rotate_left 2; (focus ((simp only [List.getElem?_toArray, List.getElem?_cons_succ, List.getElem?_cons_zero]) <;> rfl)); (focus rfl); (focus (intro w' hS; (try dsimp only at hS); go_split_ands; go_simp; (try (with_reducible rfl)))); simp only [Act.put, List.setIfInBounds_toArray, List.set_cons_zero, List.set_cons_succ]))
      refine ordt_e ?_
      (refine op_e (o := ?_) ?_ ?_ (fun K hK => ?_); rotate_left 1; (focus ((simp only [List.getElem?_toArray, List.getElem?_cons_succ, List.getElem?_cons_zero]) <;> rfl)); (focus rfl); go_simp)
      refine (l4Bits_own x ni _ x0 (by omega) (by omega)).mono ?_
      rintro e2 w3 ⟨s3, c3, rfl, h3, hq⟩
      have hq3 : Below wr.heap.size wr w3 := (Below.refl _ _).drew.trans hq
      refine hK.out _ _ (HC.out _ hq3).1 ?_
      clear hK K hq
      have H3 := Lib.hid (And.intro h3 hq3)
      clear h3 hq3
      (try simp only [Act.put, List.setIfInBounds_toArray, List.set_cons_zero, List.set_cons_succ])
      repeat (first | (refine ordt_s (o := ?_) ?_ ?_ ?_; rotate_left 1; (focus ((simp only [List.getElem?_toArray, List.getElem?_cons_succ, List.getElem?_cons_zero]) <;> rfl)); (focus rfl); simp only [Act.put, List.setIfInBounds_toArray, List.set_cons_zero, List.set_cons_succ]) | (refine ordt_q (o := ?_) (v := ?_) ?_ ?_ ?_ ?_; rotate_left 2; (focus ((simp only [List.getElem?_toArray, List.getElem?_cons_succ, List.getElem?_cons_zero]) <;> rfl)); (focus rfl); (focus (intro w' hS; (try dsimp only at hS); go_split_ands; go_simp; (try (with_reducible rfl)))); simp only [Act.put, List.setIfInBounds_toArray, List.set_cons_zero, List.set_cons_succ]))
      refine ordt_e ?_
      (refine op_e (o := ?_) ?_ ?_ (fun K hK => ?_); rotate_left 1; (focus ((simp only [List.getElem?_toArray, List.getElem?_cons_succ, List.getElem?_cons_zero]) <;> rfl)); (focus rfl); go_simp)
      have hA := (Below.refl w3.heap.size w3).alloc (Nat.le_refl _) (.cells #[.slice s3 ni c3] 44)
      have hrow : (w3.alloc (.cells #[.slice s3 ni c3] 44)).ownsRow w3.heap.size 44 1 (.slice (some ⟨w3.heap.size, 0, none⟩) 1 1) 1 [.slice s3 ni c3] := own_of_blk (n := 1) (cur := #[.slice s3 ni c3]) (blk_new _ _) (Nat.le_refl _) (by simp) (by unfold maxLen; omega)
      revert hA hrow
      generalize w3.alloc (.cells #[.slice s3 ni c3] 44) = W4
      intro hA hrow
      refine hK.out _ _ (HC.out _ (H3.out.2.trans (hA.mono H3.out.2.size))).1 ?_
      clear hK K
      have H4 := Lib.hid (And.intro hA hrow)
      clear hA hrow
      (try simp only [Act.put, List.setIfInBounds_toArray, List.set_cons_zero, List.set_cons_succ])
      repeat (first | (refine ordt_s (o := ?_) ?_ ?_ ?_; rotate_left 1; (focus ((simp only [List.getElem?_toArray, List.getElem?_cons_succ, List.getElem?_cons_zero]) <;> rfl)); (focus rfl); simp only [Act.put, List.setIfInBounds_toArray, List.set_cons_zero, List.set_cons_succ]) | (refine ordt_q (o := ?_) (v := ?_) ?_ ?_ ?_ ?_; rotate_left 2; (focus ((simp only [List.getElem?_toArray, List.getElem?_cons_succ, List.getElem?_cons_zero]) <;> rfl)); (focus rfl); (focus (intro w' hS; (try dsimp only at hS); go_split_ands; go_simp; (try (with_reducible rfl)))); simp only [Act.put, List.setIfInBounds_toArray, List.set_cons_zero, List.set_cons_succ]))
      refine ordt_e ?_
      (refine op_e (o := ?_) ?_ ?_ (fun K hK => ?_); rotate_left 1; (focus ((simp only [List.getElem?_toArray, List.getElem?_cons_succ, List.getElem?_cons_zero]) <;> rfl)); (focus rfl))
      refine wp_app (.tmp 26) (.tmp 27) rfl elem_bss2 H4.out.2 rfl rfl (by rw [HR.out.2.2.2.1, Nat.mul_one]) (HR.out.2.2.2.2.1.mono (H3.out.2.trans (H4.out.1.mono H3.out.2.size))) HR.out.2.2.2.2.2.1 (suf.length + 1) (Nat.add_comm _ _) (.slice s3 ni c3 :: vs) rfl (by unfold maxLen; omega) (by omega) H4.out.1.size ?_
      intro s6 c6 w6 h6 hb6 hg6 hob
      have hq36 := H4.out.1.trans hb6
      have hq6 := H3.out.2.trans (hq36.mono H3.out.2.size)
      refine hK.out _ _ (HC.out _ hq6).1 ?_
      clear hK K
      have hbig : w.heap.size ≤ w3.heap.size := by have h1 := HD.out.1.size; have h2 := HR.out.2.2.1.size; have h3 := H3.out.2.size; omega
      have hnew : SlBA w6 w.heap.size s6 (rowsX ni (x :: suf)) := by
        refine ⟨.slice s3 ni c3 :: vs, by simp [rowsX, HR.out.2.2.2.1], own_sl h6, fun a ha => Nat.le_trans hbig (own_from h6 a ha), fun u hu => (List.mem_cons.1 hu).elim (fun e => by rw [e]; simp [Value.oneCell']) (HR.out.2.2.2.2.2.1 u), fun i r hr => ?_⟩
        cases i with
        | zero =>
          simp [rowsX] at hr
          subst hr
          exact ⟨s3, c3, by rw [bitsV_length]; rfl, (own_sl H3.out.1).mono hq36, fun a ha => Nat.le_trans (by have h0 : wr.drew.heap.size = wr.heap.size := rfl; have h1 := HD.out.1.size; have h2 := HR.out.2.2.1.size; omega) (own_from H3.out.1 a ha)⟩
        | succ i =>
          obtain ⟨si, ci, e1, e2, e3⟩ := HR.out.2.2.2.2.2.2 i r (by simpa [rowsX] using hr)
          exact ⟨si, ci, e1, e2.mono hq6, e3⟩
      have H6 := Lib.hid (And.intro hnew (HR.out.2.2.1.trans (hq6.mono HR.out.2.2.1.size)))
      have z := (HC.out _ hq6).2
      clear hnew hbig h6 hb6 hg6 hob hq6 hq36
      (try simp only [Act.put, List.setIfInBounds_toArray, List.set_cons_zero, List.set_cons_succ])
      repeat (first | (refine ordt_s (o := ?_) ?_ ?_ ?_; rotate_left 1; (focus ((simp only [List.getElem?_toArray, List.getElem?_cons_succ, List.getElem?_cons_zero]) <;> rfl)); (focus rfl); simp only [Act.put, List.setIfInBounds_toArray, List.set_cons_zero, List.set_cons_succ]) | (refine ordt_q (o := ?_) (v := ?_) ?_ ?_ ?_ ?_; rotate_left 2; (focus ((simp only [List.getElem?_toArray, List.getElem?_cons_succ, List.getElem?_cons_zero]) <;> rfl)); (focus rfl); (focus (intro w' hS; (try dsimp only at hS); go_split_ands; go_simp; (try (with_reducible rfl)))); simp only [Act.put, List.setIfInBounds_toArray, List.set_cons_zero, List.set_cons_succ]))
      refine ordt_nil ?_
      go_wp2_with fail
      go_roundw
      case rel => exact ⟨j, e', x :: suf, s6, c6, HR.out.1, by go_num, rfl, H6.out.1, HR.out.2.1, H6.out.2⟩
      case measure => simp [intOf]; omega

end Go.Proofs.Ytgadinaninkmoaa
